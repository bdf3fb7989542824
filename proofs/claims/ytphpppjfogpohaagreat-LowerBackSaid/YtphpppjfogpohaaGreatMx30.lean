/- Merged by program (merge.py) out of: StO, StP, StS, IdP, StR, StW, OwnC, CkA, AwF. -/
import Derived.Test.YtphpppjfogpohaaGreatMx29
import Derived.Test.YtphpppjfogpohaaGreatMx16
import Derived.Test.YtphpppjfogpohaaGreatMx21
import Derived.Test.YtphpppjfogpohaaGreatMx20
import Derived.Test.YtphpppjfogpohaaGreatMx7
import Derived.Test.YtphpppjfogpohaaGreatMx14
import Derived.Test.YtphpppjfogpohaaGreatMx2
import Derived.Test.YtphpppjfogpohaaGreatMx18
set_option linter.unusedSimpArgs false
set_option linter.unusedVariables false
set_option maxRecDepth 100000
set_option maxHeartbeats 16000000
namespace Go.Proofs.YtphpppjfogpohaaGreat
open Go.RowKit Go.Shelf
section
variable {c0 c1 c2 c3 : Int} {sn : Bool} {wA : Option Addr} {ws : List Int} {wc : Nat} {top : Int} {tA : Option Addr} {tb : List (Int × Int)} {tc : Nat} {fA : Option Addr} {fr : List (Int × Int)} {fc : Nat} {sA : Option Addr} {sl : List (Bool × Int × Int)} {sc : Nat}
variable {V : World} {L : Nat} {p sm m : Value}
end
section
variable {c0 c1 c2 c3 : Int} {sn : Bool} {wA : Option Addr} {ws : List Int} {wc : Nat} {top : Int} {tA : Option Addr} {tb : List (Int × Int)} {tc : Nat} {fA : Option Addr} {fr : List (Int × Int)} {fc : Nat} {sA : Option Addr} {sl : List (Bool × Int × Int)} {sc : Nat}
variable {V : World}
end
theorem check_led {c0 c1 c2 c3:Int} {sn:Bool} {ws:List Int} {top:Int} {tb fr:List (Int×Int)} {sl:List (Bool×Int×Int)} (h:ledR (largeA c0 c1 c2 c3) (largeS c0 c1 c2 c3) tb fr=true):checkZ c0 c1 c2 c3 sn ws top tb fr sl=firstZ
 [cfgB c0 c1 c2 c3,decide ((ws.length:Int)=wordsZ c0 c1 c2 c3),topB c0 c1 c2 c3 sn top,decide (stopE (some ws) (halfA c0 c1 c2 c3 sn) (halfS c0 c1 c2 c3) top=0),(smallsL c0 c1 c2 c3 sn ws top).all (smallO (some ws) c0 c1 c2 c3),
  tb.all (largeO (some ws) c0 c1 c2 c3),slotsB sl c2,(smallsL c0 c1 c2 c3 sn ws top++tb.map (·.1)).all (fieldsO (some ws) (startsB (smallsL c0 c1 c2 c3 sn ws top) tb)),
  sl.all (handleB (startsB (smallsL c0 c1 c2 c3 sn ws top) tb))]:=by
 rw [checkZ,ruleL,h,Bool.true_and]
theorem first_all {rs:List Bool} (h:firstZ rs=0):∀b∈rs,b=true:=by
 unfold firstZ at h
 split at h
 ·rename_i i _;omega
 ·rename_i h1
  rw [List.findIdx?_eq_none_iff]at h1
  intro b hb
  simpa using h1 b hb
structure AllOk (c0 c1 c2 c3:Int) (sn:Bool) (ws:List Int) (top:Int) (tb fr:List (Int×Int)) (sl:List (Bool×Int×Int)):Prop where
 cfg:cfgB c0 c1 c2 c3=true
 len:decide ((ws.length:Int)=wordsZ c0 c1 c2 c3)=true
 tp:topB c0 c1 c2 c3 sn top=true
 stop:stopE (some ws) (halfA c0 c1 c2 c3 sn) (halfS c0 c1 c2 c3) top=0
 small:(smallsL c0 c1 c2 c3 sn ws top).all (smallO (some ws) c0 c1 c2 c3)=true
 led:ledR (largeA c0 c1 c2 c3) (largeS c0 c1 c2 c3) tb fr=true
 large:tb.all (largeO (some ws) c0 c1 c2 c3)=true
 slots:slotsB sl c2=true
 field:(smallsL c0 c1 c2 c3 sn ws top++tb.map (·.1)).all (fieldsO (some ws) (startsB (smallsL c0 c1 c2 c3 sn ws top) tb))=true
 handle:sl.all (handleB (startsB (smallsL c0 c1 c2 c3 sn ws top) tb))=true
section
variable {c0 c1 c2 c3 : Int} {sn : Bool} {ws : List Int} {top : Int} {tb fr : List (Int × Int)} {sl : List (Bool × Int × Int)}
theorem check_ok (h:checkZ c0 c1 c2 c3 sn ws top tb fr sl=0):AllOk c0 c1 c2 c3 sn ws top tb fr sl:=by
 have H:=first_all h
 simp only [ruleL,List.mem_cons,List.not_mem_nil,or_false,forall_eq_or_imp,forall_eq]at H
 obtain ⟨h1,h2,h3,h4,h5,h6,h7,h8,h9⟩:=H
 rw [Bool.and_eq_true]at h6
 exact ⟨h1,h2,h3,of_decide_eq_true h4,h5,h6.1,h6.2,h7,h8,h9⟩
theorem ok_check (h:AllOk c0 c1 c2 c3 sn ws top tb fr sl):checkZ c0 c1 c2 c3 sn ws top tb fr sl=0:=by
 rw [check_led h.led,h.cfg,h.len,h.tp,h.stop,h.small,h.large,h.slots,h.field,h.handle]
 rfl
theorem AllOk.head (h:AllOk c0 c1 c2 c3 sn ws top tb fr sl) {z:Int} (hz:z∈smallsL c0 c1 c2 c3 sn ws top++tb.map (·.1)):headE (some ws) z=0:=by
 rcases List.mem_append.1 hz with hz | hz
 ·obtain ⟨hc, -⟩:=list_chain h.stop
  obtain ⟨k,hk,rfl⟩:=List.getElem_of_mem hz
  have:=(chain_at hc k hk).1
  have e:(smallsL c0 c1 c2 c3 sn ws top).getD k 0=(smallsL c0 c1 c2 c3 sn ws top)[k]:=by simp [hk]
  rw [←e]
  exact this
 ·obtain ⟨x,hx,rfl⟩:=List.mem_map.1 hz
  have:=List.all_eq_true.1 h.large x hx
  simp only [largeO,Bool.and_eq_true,decide_eq_true_eq]at this
  exact this.1.1.1
end
section
variable {c0 c1 c2 c3 : Int} {sn : Bool} {wA : Option Addr} {ws : List Int} {wc : Nat} {top : Int} {tA : Option Addr} {tb : List (Int × Int)} {tc : Nat} {fA : Option Addr} {fr : List (Int × Int)} {fc : Nat} {sA : Option Addr} {sl : List (Bool × Int × Int)} {sc : Nat}
theorem sthead_any (V:World) (i:Int) (HW:Pers V (fun w=>WordsAt w wA ws)) (hwl:ws.length≤98304) (hwb:∀z∈ws,0≤z∧z < 18446744073709551616) (hi: -9223372036854775808≤i∧i≤9223372036854775807):
  Calls Tryz.prog 60 #[.agg #[.int .i64 c0,.int .i64 c1,.int .i64 c2,.int .i64 c3,.bool sn,.slice wA ws.length wc,.int .i64 top,.slice tA tb.length tc,.slice fA fr.length fc,.slice sA sl.length sc],.int .i64 i] V fun e w'=>e= .returned (.tuple #[.agg #[.int .i64 (headH (some ws) i).k,.int .i64 (headH (some ws) i).f,.int .i64 (headH (some ws) i).r,.bool (headH (some ws) i).m,.int .i64 (headH (some ws) i).c],.int .i64 (headE (some ws) i)])∧Ext V w':=by
 have hS:=pers_new2 V #[.int .i64 c0,.int .i64 c1,.int .i64 c2,.int .i64 c3,.bool sn,.slice wA ws.length wc,.int .i64 top,.slice tA tb.length tc,.slice fA fr.length fc,.slice sA sl.length sc] 34 _ rfl (.cells #[.int .i64 0,.int .i64 0,.int .i64 0,.bool false,.int .i64 0] 85)
 have hR:=pers_new (V.alloc (.cells #[.int .i64 c0,.int .i64 c1,.int .i64 c2,.int .i64 c3,.bool sn,.slice wA ws.length wc,.int .i64 top,.slice tA tb.length tc,.slice fA fr.length fc,.slice sA sl.length sc] 34)) #[.int .i64 0,.int .i64 0,.int .i64 0,.bool false,.int .i64 0] 85 (V.heap.size+1) (by simp)
 have hx:=((Ext.refl V).alloc (.cells #[.int .i64 c0,.int .i64 c1,.int .i64 c2,.int .i64 c3,.bool sn,.slice wA ws.length wc,.int .i64 top,.slice tA tb.length tc,.slice fA fr.length fc,.slice sA sl.length sc] 34)).alloc (.cells #[.int .i64 0,.int .i64 0,.int .i64 0,.bool false,.int .i64 0] 85)
 have HVR:Hid (V.heap.size≤V.heap.size+1):=zH (by omega)
 have hwb':=hwb
 replace HW:=HW.re hx
 have HX:=zH hx
 clear hx hwb
 by_cases h0:i < 0
 ·have d0:decide (i < 0)=true:=by simpa using h0
  have HR:Hid (headE (some ws) i=2):=zH (by simp [headE,atA,h0])
  have HH:=zH (headH_bad HR.out (by decide))
  clear h0
  go_enter Tryz.func60,Tryz.ntmps60
  go_wp2_with fail
  generalize (V.alloc (.cells #[.int .i64 c0,.int .i64 c1,.int .i64 c2,.int .i64 c3,.bool sn,.slice wA ws.length wc,.int .i64 top,.slice tA tb.length tc,.slice fA fr.length fc,.slice sA sl.length sc] 34)).alloc (.cells #[.int .i64 0,.int .i64 0,.int .i64 0,.bool false,.int .i64 0] 85)=W at*
  generalize V.heap.size+1=R at*
  have hrr:=hR.here
  have p0:W.cell? ⟨R,0,none⟩=some (.int .i64 0):=by simp [World.cell?,hrr]
  have p1:W.cell? ⟨R,1,none⟩=some (.int .i64 0):=by simp [World.cell?,hrr]
  have p2:W.cell? ⟨R,2,none⟩=some (.int .i64 0):=by simp [World.cell?,hrr]
  have p3:W.cell? ⟨R,3,none⟩=some (.bool false):=by simp [World.cell?,hrr]
  have p4:W.cell? ⟨R,4,none⟩=some (.int .i64 0):=by simp [World.cell?,hrr]
  have p5:∀o,W.frozen? ⟨R,o,none⟩=false:=fun o=>frozen_of_row _ _ _ _ _ hrr
  ((try simp only [Exit.inBlock,Exit.then]);refine bodyPost_ret (v:= .tuple #[.agg #[.int .i64 0,.int .i64 0,.int .i64 0,.bool false,.int .i64 0],.int .i64 2]) (by simp only [results,Tryz.results60];go_simp) rfl ?_)
  exact ⟨by rw [HH.out,HR.out];rfl,HX.out⟩
 have d0:decide (i < 0)=false:=by simpa using h0
 obtain ⟨k,rfl⟩:=Int.eq_ofNat_of_zero_le (Int.not_lt.1 h0)
 clear h0
 by_cases h1:k < ws.length
 rotate_left
 ·have d1:decide (ws.length≤k)=true:=by simpa using h1
  have HR:Hid (headE (some ws) k=2):=zH (by have:(ws.length:Int)≤(k:Int):=(by omega);simp [headE,atA,this])
  have HH:=zH (headH_bad HR.out (by decide))
  clear h1
  go_enter Tryz.func60,Tryz.ntmps60
  go_wp2_with fail
  generalize (V.alloc (.cells #[.int .i64 c0,.int .i64 c1,.int .i64 c2,.int .i64 c3,.bool sn,.slice wA ws.length wc,.int .i64 top,.slice tA tb.length tc,.slice fA fr.length fc,.slice sA sl.length sc] 34)).alloc (.cells #[.int .i64 0,.int .i64 0,.int .i64 0,.bool false,.int .i64 0] 85)=W at*
  generalize V.heap.size+1=R at*
  have hrr:=hR.here
  have p0:W.cell? ⟨R,0,none⟩=some (.int .i64 0):=by simp [World.cell?,hrr]
  have p1:W.cell? ⟨R,1,none⟩=some (.int .i64 0):=by simp [World.cell?,hrr]
  have p2:W.cell? ⟨R,2,none⟩=some (.int .i64 0):=by simp [World.cell?,hrr]
  have p3:W.cell? ⟨R,3,none⟩=some (.bool false):=by simp [World.cell?,hrr]
  have p4:W.cell? ⟨R,4,none⟩=some (.int .i64 0):=by simp [World.cell?,hrr]
  have p5:∀o,W.frozen? ⟨R,o,none⟩=false:=fun o=>frozen_of_row _ _ _ _ _ hrr
  ((try simp only [Exit.inBlock,Exit.then]);refine bodyPost_ret (v:= .tuple #[.agg #[.int .i64 0,.int .i64 0,.int .i64 0,.bool false,.int .i64 0],.int .i64 2]) (by simp only [results,Tryz.results60];go_simp) rfl ?_)
  exact ⟨by rw [HH.out,HR.out];rfl,HX.out⟩
 have d1:decide (ws.length≤k)=false:=by simpa using h1
 obtain ⟨lb,off,rfl,hc⟩:=HW.here.get (by omega)
 have cz:=words_cell hc h1
 have hzb:=hwb' _ (getD_mem (d:=0) h1)
 have HAT:Hid (atA (some ws) k=0):=zH (by simp only [atA];rw [if_neg (by omega)])
 have HRD:Hid (rdA (some ws) k=ws.getD k 0):=zH (by rw [rdA,if_pos HAT.out];simp)
 have hsub:wrap64 ((ws.length:Int) - (k:Int))=(ws.length:Int) - (k:Int):=IntWalk.wrap64_in _ ⟨by omega,by omega⟩
 have ib1:(k:Int) < (ws.length:Int):=by omega
 clear hc h1
 generalize ws.getD k 0=z at*
 obtain ⟨b,hb⟩:∃b,hdecB z.toNat=b:=⟨_,rfl⟩
 have HB:=zH hb
 clear hb
 go_enter Tryz.func60,Tryz.ntmps60
 go_wp2_with fail
 generalize (V.alloc (.cells #[.int .i64 c0,.int .i64 c1,.int .i64 c2,.int .i64 c3,.bool sn,.slice (some ⟨lb,off,none⟩) ws.length wc,.int .i64 top,.slice tA tb.length tc,.slice fA fr.length fc,.slice sA sl.length sc] 34)).alloc (.cells #[.int .i64 0,.int .i64 0,.int .i64 0,.bool false,.int .i64 0] 85)=W at*
 generalize V.heap.size+1=R at*
 have gS:=hS.cells
 have gR:=hR.cells
 have fR:=hR.frees
 have lR:=hR.lt
 clear cz
 cases b
 ·have HR:Hid (headE (some ws) k=3):=zH (by rw [headE,HAT.out,if_pos rfl,HRD.out,HB.out];rfl)
  have HH:=zH (headH_bad HR.out (by decide))
  ((first | refine at_baseC (W:=W) ?_ | refine at_base (W:=W) ?_);intro uq;(try go_wp2_with fail))
  (refine (hdec_is z hd0 3 hzb (by rw [hdecH,HB.out];rfl) (by rw [hdecE,HB.out];rfl) _).mono ?_;rintro e wq ⟨rfl,hx⟩;replace hx:=Ext.trans (a:=W) zE hx;obtain ⟨uq,rfl⟩:∃u:ExtOf W,wq=u.1:=⟨⟨wq,hx⟩,rfl⟩;clear hx;go_wp2_with fail)
  ((try simp only [Exit.inBlock,Exit.then]);refine bodyPost_ret (v:= .tuple #[.agg #[.int .i64 0,.int .i64 0,.int .i64 0,.bool false,.int .i64 0],.int .i64 3]) (by simp only [results,Tryz.results60];go_simp) rfl ?_)
  exact ⟨by rw [HH.out,HR.out];rfl,(ext5x (HX.out.trans uq.2) HVR.out _ _ _ _ _).alloc _⟩
 ·have HHE:Hid (headE (some ws) k=if (ws.length:Int) - k < hsize (decH z.toNat)then 2 else 0):=zH (by rw [headE,HAT.out,if_pos rfl,HRD.out,HB.out,if_pos rfl];rfl)
  have HHH:Hid (headE (some ws) k=0→headH (some ws) k=decH z.toNat):=zH (fun h=>by rw [headH,if_pos h,HRD.out])
  have HD1:Hid (hdecH z.toNat=decH z.toNat):=zH (by rw [hdecH,HB.out];rfl)
  have HD2:Hid (hdecE z.toNat=0):=zH (by rw [hdecE,HB.out];rfl)
  generalize decH z.toNat=h at*
  obtain ⟨n,hn⟩:∃n,hsize h=n:=⟨_,rfl⟩
  have HN:=zH hn
  clear hn gS gR fR lR
  ((first | refine at_baseC (W:=W) ?_ | refine at_base (W:=W) ?_);intro uq;(try go_wp2_with fail))
  (refine (hdec_is z h 0 hzb HD1.out HD2.out _).mono ?_;rintro e w2 ⟨rfl,hx⟩;replace hx:=Ext.trans (a:=W) zE hx)
  have HBH:=pers_new w2 #[.int .i64 h.k,.int .i64 h.f,.int .i64 h.r,.bool h.m,.int .i64 h.c] 85 _ rfl
  replace hx:=hx.alloc (.cells #[.int .i64 h.k,.int .i64 h.f,.int .i64 h.r,.bool h.m,.int .i64 h.c] 85)
  replace hS:=hS.re hx
  replace hR:=hR.re hx
  replace HX:=zH (HX.out.trans hx)
  clear hx
  go_wp2_with fail
  generalize w2.alloc (.cells #[.int .i64 h.k,.int .i64 h.f,.int .i64 h.r,.bool h.m,.int .i64 h.c] 85)=W3 at*
  generalize w2.heap.size=X at*
  have gS:=hS.cells
  have gR:=hR.cells
  have fR:=hR.frees
  have lR:=hR.lt
  have g1:=HBH.cells
  have hx3:=Ext.refl W3
  by_cases hc:(ws.length:Int) - (k:Int) < n
  ·have hd:decide ((ws.length:Int) - (k:Int) < n)=true:=by simpa using hc
   have HR:Hid (headE (some ws) k=2):=zH (by rw [HHE.out,HN.out,if_pos hc])
   have HH:=zH (headH_bad HR.out (by decide))
   clear hc
   (refine wp_region_ext (W:=W3) (by kernel_rfl) (by kernel_rfl) (by with_reducible assumption) ?_;(repeat (go_big_quiet_step (first | (go_at_call 104;with_reducible exact Calls.ext_of (hsize_is h n HN.out _)))));refine wpQuiet_nil ?_;intro w1 hx)
   (obtain ⟨uq,rfl⟩:∃u:ExtOf W3,w1=u.1:=⟨⟨w1,hx⟩,rfl⟩;clear hx;go_wp2_with fail)
   ((try simp only [Exit.inBlock,Exit.then]);refine bodyPost_ret (v:= .tuple #[.agg #[.int .i64 0,.int .i64 0,.int .i64 0,.bool false,.int .i64 0],.int .i64 2]) (by simp only [results,Tryz.results60];go_simp) rfl ?_)
   exact ⟨by rw [HH.out,HR.out];rfl,ext5x (HX.out.trans (ExtOf.ext _)) HVR.out _ _ _ _ _⟩
  ·have hd:decide ((ws.length:Int) - (k:Int) < n)=false:=by simpa using hc
   have HR:Hid (headE (some ws) k=0):=zH (by rw [HHE.out,HN.out,if_neg hc])
   have HH:=zH (HHH.out HR.out)
   clear hc
   (refine wp_region_ext (W:=W3) (by kernel_rfl) (by kernel_rfl) (by with_reducible assumption) ?_;(repeat (go_big_quiet_step (first | (go_at_call 104;with_reducible exact Calls.ext_of (hsize_is h n HN.out _)))));refine wpQuiet_nil ?_;intro w1 hx)
   (obtain ⟨uq,rfl⟩:∃u:ExtOf W3,w1=u.1:=⟨⟨w1,hx⟩,rfl⟩;clear hx;go_wp2_with fail)
   ((try simp only [Exit.inBlock,Exit.then]);refine bodyPost_ret (v:= .tuple #[.agg #[.int .i64 h.k,.int .i64 h.f,.int .i64 h.r,.bool h.m,.int .i64 h.c],.int .i64 0]) (by simp only [results,Tryz.results60];go_simp) rfl ?_)
   exact ⟨by rw [HH.out,HR.out],ext5x (HX.out.trans (ExtOf.ext _)) HVR.out _ _ _ _ _⟩
end
theorem flat_setAt {α:Type} {n:Nat} {f:α→List Value} (hf:Cells n f) (y:α) (j:Nat) (hj:j < n) (u:Value):∀(xs:List α) (k:Nat) (hk:k < xs.length),f y=(f xs[k]).set j u→(xs.set k y).flatMap f=(xs.flatMap f).set (k*n+j) u:=by
 intro xs
 induction xs with
 | nil=>intro k hk;simp at hk
 | cons x xs ih=>
  intro k hk h
  have hl:(f x).length=n:=hf.1 x
  cases k with
  | zero=>
   simp only [List.set_cons_zero,List.flatMap_cons,Nat.zero_mul,Nat.zero_add]
   rw [List.set_append_left _ _ (by omega)]
   simp only [List.getElem_cons_zero]at h
   rw [h]
  | succ k=>
   simp only [List.set_cons_succ,List.flatMap_cons]
   have e:(k+1)*n+j=n+(k*n+j):=by rw [Nat.succ_mul];omega
   rw [List.set_append_right _ _ (by rw [hl,e];omega),hl,e,Nat.add_sub_cancel_left]
   congr 1
   exact ih k (by simpa using hk) (by simpa using h)
theorem own_setAt {α:Type} {e:TypeId} {n:Nat} {f:α→List Value} {w:World} {B g N cap:Nat} {xs:List α} (hf:Cells n f) (h:Own e n f w B (.slice (some ⟨g,0,none⟩) N cap) xs) (hn:xs.length=N) (k j:Nat) (hk:k < xs.length) (hj:j < n) (y:α) (u:Value) (hy:f y=(f xs[k]).set j u):
  Own e n f (w.setCell ⟨g,k*n+j,none⟩ u) B (.slice (some ⟨g,0,none⟩) N cap) (xs.set k y):=by
 unfold Own at h⊢
 rw [List.length_set,flat_setAt hf y j hj u xs k hk hy,hn]
 rw [hn]at h
 exact (World.ownsRow.stored h (k*n+j) u).1
structure StB (s:StD):Prop where
 wb:∀z∈s.ws,0≤z∧z < 18446744073709551616
 tbb:∀x∈s.tb,(-9223372036854775808≤x.1∧x.1≤9223372036854775807)
 sb:∀x∈s.sl,0≤x.2.2∧x.2.2 < 18446744073709551616
theorem stcheck_s (s:StD) (k:Int) (hk:checkZ s.c0 s.c1 s.c2 s.c3 s.snd s.ws s.top s.tb s.fr s.sl=k) (V:World) (h:StAt V s) (hl:StLe s) (hb:StB s):Calls Tryz.prog 19 #[.agg #[.int .i64 s.c0,.int .i64 s.c1,.int .i64 s.c2,.int .i64 s.c3,.bool s.snd,.slice s.wA s.ws.length s.wc,.int .i64 s.top,.slice s.tA s.tb.length s.tc,.slice s.fA s.fr.length s.fc,.slice s.sA s.sl.length s.sc]] V fun e w'=>e= .returned (.int .i64 k)∧Ext V w':=by
 subst hk
 exact stcheck_any V (pers_row h.w) (pers_row h.t) (pers_row h.f) (pers_row h.s) hl.w hl.t hl.f hl.s hb.wb hb.tbb hb.sb
section
variable {α : Type} {e : TypeId} {n : Nat} {f : α → List Value} {w : World} {B g N cap : Nat} {xs : List α}
theorem own_cellAt (hf:Cells n f) (h0:0 < n) (h:Own e n f w B (.slice (some ⟨g,0,none⟩) N cap) xs) (hn:xs.length=N) (k j:Nat) (hk:k < xs.length) (v:Value) (hv:(f xs[k])[j]?=some v):w.cell? ⟨g,k*n+j,none⟩=some v:=by
 subst hn
 have hr:=(own_row h hf h0).1
 obtain ⟨b,off,e1,hc⟩:=RowAt.get hr (by omega)
 injection e1 with e1
 injection e1 with e1 e2 _
 subst e1 e2
 have:=hc k xs[k] (by simp [hk]) j v hv
 simpa using this
theorem own_frozen (h:Own e n f w B (.slice (some ⟨g,0,none⟩) N cap) xs) (i:Nat):w.frozen? ⟨g,i,none⟩=false:=by
 obtain ⟨cur,hc⟩:=own_heap h
 exact (cells_of hc).2 i
theorem own_far {v:Value} (h:Own e n f w B v xs) (hg:g < B) (i:Nat) (u:Value):Own e n f (w.setCell ⟨g,i,none⟩ u) B v xs:=
 h.setNe (fun hv=>by have:=(own_lt h hv).1;omega)
end
section
variable {B g : Nat} {w : World} {s : StD}
theorem StOwn.far (h:StOwn B w s) (hg:g < B) (i:Nat) (u:Value):StOwn B (w.setCell ⟨g,i,none⟩ u) s:=⟨own_far h.w hg i u,own_far h.t hg i u,own_far h.f hg i u,own_far h.s hg i u⟩
theorem StOwn.setW (h:StOwn B w s) (hA:s.wA=some ⟨g,0,none⟩) (k:Nat) (z:Int):StOwn B (w.setCell ⟨g,k,none⟩ (.int .u64 z)) {s with ws:=s.ws.set k z}:=by
 have hw:=h.w
 rw [hA]at hw
 obtain ⟨cur,hc⟩:=own_heap hw
 refine ⟨?_,h.t.setOther hc (by decide),h.f.setOther hc (by decide),h.s.setOther hc (by decide)⟩
 simp only [List.length_set,hA]
 exact own_setU hw rfl k z
theorem StOwn.setS (h:StOwn B w s) (hA:s.sA=some ⟨g,0,none⟩) (k j:Nat) (hk:k < s.sl.length) (hj:j < 3) (y:Bool×Int×Int) (u:Value) (hy:slotC y=(slotC s.sl[k]).set j u):StOwn B (w.setCell ⟨g,k*3+j,none⟩ u) {s with sl:=s.sl.set k y}:=by
 have hs:=h.s
 rw [hA]at hs
 obtain ⟨cur,hc⟩:=own_heap hs
 refine ⟨h.w.setOther hc (by decide),h.t.setOther hc (by decide),h.f.setOther hc (by decide),?_⟩
 simp only [List.length_set,hA]
 exact own_setAt slotCells hs rfl k j hk hj y u hy
end
end Go.Proofs.YtphpppjfogpohaaGreat
