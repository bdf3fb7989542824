/- Merged by program (merge.py) out of: StO, StP, StS, IdP, StR, StW, CkA, OwnC, AwF. -/
import Derived.Test.YtphpppjfogpohaaGreatMy0
import Derived.Test.YtphpppjfogpohaaGreatMy29
import Derived.Test.YtphpppjfogpohaaGreatMy16
import Derived.Test.YtphpppjfogpohaaGreatMy21
import Derived.Test.YtphpppjfogpohaaGreatMy20
import Derived.Test.YtphpppjfogpohaaGreatMy7
import Derived.Test.YtphpppjfogpohaaGreatMy14
import Derived.Test.YtphpppjfogpohaaGreatMy2
import Derived.Test.YtphpppjfogpohaaGreatMy18
set_option linter.unusedSimpArgs false
set_option linter.unusedVariables false
set_option maxRecDepth 100000
set_option maxHeartbeats 16000000
namespace Go.Proofs.YtphpppjfogpohaaGreat
open Go.RowKit Go.Shelf
section
variable {c0 c1 c2 c3 : Int} {sn : Bool} {wA : Option Addr} {ws : List Int} {wc : Nat} {top : Int} {tA : Option Addr} {tb : List (Int × Int)} {tc : Nat} {fA : Option Addr} {fr : List (Int × Int)} {fc : Nat} {sA : Option Addr} {sl : List (Bool × Int × Int)} {sc : Nat}
variable {V : World} {L : Nat} {p sm m : Value}
end
def bigB (w t f s:Nat):Bool:=decide (400 < w∨60 < t∨60 < f∨100 < s)
section
variable {c0 c1 c2 c3 : Int} {sn : Bool} {wA : Option Addr} {ws : List Int} {wc : Nat} {top : Int} {tA : Option Addr} {tb : List (Int × Int)} {tc : Nat} {fA : Option Addr} {fr : List (Int × Int)} {fc : Nat} {sA : Option Addr} {sl : List (Bool × Int × Int)} {sc : Nat}
variable {V : World}
theorem qW (V:World) (hw:ws.length≤9223372036854775807) (ht:tb.length≤9223372036854775807) (hf:fr.length≤9223372036854775807) (hs:sl.length≤9223372036854775807):
  Calls Tryz.prog 22 #[.agg #[.int .i64 c0,.int .i64 c1,.int .i64 c2,.int .i64 c3,.bool sn,.slice wA ws.length wc,.int .i64 top,.slice tA tb.length tc,.slice fA fr.length fc,.slice sA sl.length sc]] V fun e w'=>e= .returned (.bool (bigB ws.length tb.length fr.length sl.length))∧Ext V w':=by
 generalize ws.length=n1 at*
 generalize tb.length=n2 at*
 generalize fr.length=n3 at*
 generalize sl.length=n4 at*
 by_cases h1:400 < n1
 ·have d1:decide ((400:Int) < (n1:Int))=true:=by simp;omega
  have HR:Hid (bigB n1 n2 n3 n4=true):=zH (by simp [bigB];omega)
  clear h1
  go_enter Tryz.func22,Tryz.ntmps22
  go_wp2_with fail
  go_ret
  exact ⟨aD HR.out.symm,(zo V).alloc _⟩
 have d1:decide ((400:Int) < (n1:Int))=false:=by simp;omega
 by_cases h2:60 < n2
 ·have d2:decide ((60:Int) < (n2:Int))=true:=by simp;omega
  have HR:Hid (bigB n1 n2 n3 n4=true):=zH (by simp [bigB];omega)
  clear h1 h2
  go_enter Tryz.func22,Tryz.ntmps22
  go_wp2_with fail
  go_ret
  exact ⟨aD HR.out.symm,(zo V).alloc _⟩
 have d2:decide ((60:Int) < (n2:Int))=false:=by simp;omega
 by_cases h3:60 < n3
 ·have d3:decide ((60:Int) < (n3:Int))=true:=by simp;omega
  have HR:Hid (bigB n1 n2 n3 n4=true):=zH (by simp [bigB];omega)
  clear h1 h2 h3
  go_enter Tryz.func22,Tryz.ntmps22
  go_wp2_with fail
  go_ret
  exact ⟨aD HR.out.symm,(zo V).alloc _⟩
 have d3:decide ((60:Int) < (n3:Int))=false:=by simp;omega
 by_cases h4:100 < n4
 ·have d4:decide ((100:Int) < (n4:Int))=true:=by simp;omega
  have HR:Hid (bigB n1 n2 n3 n4=true):=zH (by simp [bigB];omega)
  clear h1 h2 h3 h4
  go_enter Tryz.func22,Tryz.ntmps22
  go_wp2_with fail
  go_ret
  exact ⟨aD HR.out.symm,(zo V).alloc _⟩
 ·have d4:decide ((100:Int) < (n4:Int))=false:=by simp;omega
  have HR:Hid (bigB n1 n2 n3 n4=false):=zH (by simp [bigB];omega)
  clear h1 h2 h3 h4
  go_enter Tryz.func22,Tryz.ntmps22
  go_wp2_with fail
  go_ret
  exact ⟨aD HR.out.symm,(zo V).alloc _⟩
end
theorem xz {c0 c1 c2 c3:Int} (h:cfgB c0 c1 c2 c3=true):ledR (bE c0 c1 c2 c3) (az c0 c1 c2 c3) [] (mu c0 c1 c2 c3)=true:=by
 obtain ⟨h1,h2,h3,h4,h5,h6,h7,h8⟩:=gI h
 have e2:az c0 c1 c2 c3=c1:=by simp [az,h]
 by_cases h0:c1=0
 ·have e1:bE c0 c1 c2 c3=0:=by simp [bE,h,h0]
  rw [mu,e1,e2,if_pos h0,h0,kD (sj _ _) (uC (by simp [mayB]))]
  simp
 ·have e1:bE c0 c1 c2 c3=2*c0:=by simp [bE,h,h0]
  rw [mu,e1,e2,if_neg h0,kD (sj _ _) (vr (by simp [mayB];omega))]
  simp
theorem nB {c0 c1 c2 c3:Int} {sn:Bool} {ws:List Int} {top:Int} {tb fr:List (Int×Int)} {sl:List (Bool×Int×Int)} (h:ledR (bE c0 c1 c2 c3) (az c0 c1 c2 c3) tb fr=true):checkZ c0 c1 c2 c3 sn ws top tb fr sl=eD
 [cfgB c0 c1 c2 c3,decide ((ws.length:Int)=cc c0 c1 c2 c3),topB c0 c1 c2 c3 sn top,decide (bH (some ws) (bG c0 c1 c2 c3 sn) (bI c0 c1 c2 c3) top=0),(smallsL c0 c1 c2 c3 sn ws top).all (ce (some ws) c0 c1 c2 c3),
  tb.all (cB (some ws) c0 c1 c2 c3),bL sl c2,(smallsL c0 c1 c2 c3 sn ws top++tb.map (·.1)).all (be (some ws) (bf (smallsL c0 c1 c2 c3 sn ws top) tb)),
  sl.all (bb (bf (smallsL c0 c1 c2 c3 sn ws top) tb))]:=by
 rw [checkZ,qT,h,Bool.true_and]
theorem uQ {rs:List Bool} (h:eD rs=0):∀b∈rs,b=true:=by
 unfold eD at h
 split at h
 ·rename_i i _;omega
 ·rename_i h1
  rw [List.findIdx?_eq_none_iff]at h1
  intro b hb
  simpa using h1 b hb
structure AllOk (c0 c1 c2 c3:Int) (sn:Bool) (ws:List Int) (top:Int) (tb fr:List (Int×Int)) (sl:List (Bool×Int×Int)):Prop where
 cfg:cfgB c0 c1 c2 c3=true
 len:decide ((ws.length:Int)=cc c0 c1 c2 c3)=true
 tp:topB c0 c1 c2 c3 sn top=true
 stop:bH (some ws) (bG c0 c1 c2 c3 sn) (bI c0 c1 c2 c3) top=0
 small:(smallsL c0 c1 c2 c3 sn ws top).all (ce (some ws) c0 c1 c2 c3)=true
 led:ledR (bE c0 c1 c2 c3) (az c0 c1 c2 c3) tb fr=true
 large:tb.all (cB (some ws) c0 c1 c2 c3)=true
 slots:bL sl c2=true
 field:(smallsL c0 c1 c2 c3 sn ws top++tb.map (·.1)).all (be (some ws) (bf (smallsL c0 c1 c2 c3 sn ws top) tb))=true
 handle:sl.all (bb (bf (smallsL c0 c1 c2 c3 sn ws top) tb))=true
section
variable {c0 c1 c2 c3 : Int} {sn : Bool} {ws : List Int} {top : Int} {tb fr : List (Int × Int)} {sl : List (Bool × Int × Int)}
theorem wO (h:checkZ c0 c1 c2 c3 sn ws top tb fr sl=0):AllOk c0 c1 c2 c3 sn ws top tb fr sl:=by
 have H:=uQ h
 simp only [qT,List.mem_cons,List.not_mem_nil,or_false,forall_eq_or_imp,forall_eq]at H
 obtain ⟨h1,h2,h3,h4,h5,h6,h7,h8,h9⟩:=H
 rw [Bool.and_eq_true]at h6
 exact ⟨h1,h2,h3,of_decide_eq_true h4,h5,h6.1,h6.2,h7,h8,h9⟩
theorem AllOk.head (h:AllOk c0 c1 c2 c3 sn ws top tb fr sl) {z:Int} (hz:z∈smallsL c0 c1 c2 c3 sn ws top++tb.map (·.1)):aV (some ws) z=0:=by
 rcases List.mem_append.1 hz with hz | hz
 ·obtain ⟨hc, -⟩:=ic h.stop
  obtain ⟨k,hk,rfl⟩:=List.getElem_of_mem hz
  have:=(qO hc k hk).1
  have e:(smallsL c0 c1 c2 c3 sn ws top).getD k 0=(smallsL c0 c1 c2 c3 sn ws top)[k]:=by simp [hk]
  rw [←e]
  exact this
 ·obtain ⟨x,hx,rfl⟩:=List.mem_map.1 hz
  have:=List.all_eq_true.1 h.large x hx
  simp only [cB,Bool.and_eq_true,decide_eq_true_eq]at this
  exact this.1.1.1
end
section
variable {c0 c1 c2 c3 : Int} {sn : Bool} {wA : Option Addr} {ws : List Int} {wc : Nat} {top : Int} {tA : Option Addr} {tb : List (Int × Int)} {tc : Nat} {fA : Option Addr} {fr : List (Int × Int)} {fc : Nat} {sA : Option Addr} {sl : List (Bool × Int × Int)} {sc : Nat}
theorem ry (V:World) (i:Int) (HW:Pers V (fun w=>WordsAt w wA ws)) (hwl:ws.length≤98304) (hwb:∀z∈ws,0≤z∧z < 18446744073709551616) (hi: -9223372036854775808≤i∧i≤9223372036854775807):
  Calls Tryz.prog 60 #[.agg #[.int .i64 c0,.int .i64 c1,.int .i64 c2,.int .i64 c3,.bool sn,.slice wA ws.length wc,.int .i64 top,.slice tA tb.length tc,.slice fA fr.length fc,.slice sA sl.length sc],.int .i64 i] V fun e w'=>e= .returned (.tuple #[.agg #[.int .i64 (aJ (some ws) i).k,.int .i64 (aJ (some ws) i).f,.int .i64 (aJ (some ws) i).r,.bool (aJ (some ws) i).m,.int .i64 (aJ (some ws) i).c],.int .i64 (aV (some ws) i)])∧Ext V w':=by
 have hS:=iG V #[.int .i64 c0,.int .i64 c1,.int .i64 c2,.int .i64 c3,.bool sn,.slice wA ws.length wc,.int .i64 top,.slice tA tb.length tc,.slice fA fr.length fc,.slice sA sl.length sc] 34 _ rfl (.cells #[.int .i64 0,.int .i64 0,.int .i64 0,.bool false,.int .i64 0] 85)
 have hR:=aF (V.alloc (.cells #[.int .i64 c0,.int .i64 c1,.int .i64 c2,.int .i64 c3,.bool sn,.slice wA ws.length wc,.int .i64 top,.slice tA tb.length tc,.slice fA fr.length fc,.slice sA sl.length sc] 34)) #[.int .i64 0,.int .i64 0,.int .i64 0,.bool false,.int .i64 0] 85 (V.heap.size+1) sM
 have hx:=((zo V).alloc (.cells #[.int .i64 c0,.int .i64 c1,.int .i64 c2,.int .i64 c3,.bool sn,.slice wA ws.length wc,.int .i64 top,.slice tA tb.length tc,.slice fA fr.length fc,.slice sA sl.length sc] 34)).alloc (.cells #[.int .i64 0,.int .i64 0,.int .i64 0,.bool false,.int .i64 0] 85)
 have HVR:Hid (V.heap.size≤V.heap.size+1):=zH oM
 have hwb':=hwb
 replace HW:=HW.re hx
 have HX:=zH hx
 clear hx hwb
 by_cases h0:i < 0
 ·have d0:decide (i < 0)=true:=by simpa using h0
  have HR:Hid (aV (some ws) i=2):=zH (by simp [aV,atA,h0])
  have HH:=zH (cV HR.out dM)
  clear h0
  go_enter Tryz.func60,Tryz.ntmps60
  go_wp2_with fail
  generalize (V.alloc (.cells #[.int .i64 c0,.int .i64 c1,.int .i64 c2,.int .i64 c3,.bool sn,.slice wA ws.length wc,.int .i64 top,.slice tA tb.length tc,.slice fA fr.length fc,.slice sA sl.length sc] 34)).alloc (.cells #[.int .i64 0,.int .i64 0,.int .i64 0,.bool false,.int .i64 0] 85)=W at*
  generalize V.heap.size+1=R at*
  have hrr:=hR.here
  have p0:W.cell? ⟨R,0,none⟩=some (.int .i64 0):=by simp [World.cell?,hrr]
  have p1:W.cell? ⟨R,1,none⟩=some (.int .i64 0):=by simp [World.cell?,hrr]
  have p2:W.cell? ⟨R,2,none⟩=some (.int .i64 0):=by simp [World.cell?,hrr]
  have p3:W.cell? ⟨R,3,none⟩=some (.bool false):=by simp [World.cell?,hrr]
  have p4:W.cell? ⟨R,4,none⟩=some (.int .i64 0):=by simp [World.cell?,hrr]
  have p5:∀o,W.frozen? ⟨R,o,none⟩=false:=fun o=>frozen_of_row _ _ _ _ _ hrr
  ((try simp only [Exit.inBlock,Exit.then]);refine bodyPost_ret (v:= .tuple #[.agg #[.int .i64 0,.int .i64 0,.int .i64 0,.bool false,.int .i64 0],.int .i64 2]) (by simp only [results,Tryz.results60];go_simp) rfl ?_)
  exact ⟨by rw [HH.out,HR.out];rfl,HX.out⟩
 have d0:decide (i < 0)=false:=by simpa using h0
 obtain ⟨k,rfl⟩:=Int.eq_ofNat_of_zero_le (Int.not_lt.1 h0)
 clear h0
 by_cases h1:k < ws.length
 rotate_left
 ·have d1:decide (ws.length≤k)=true:=by simpa using h1
  have HR:Hid (aV (some ws) k=2):=zH (by have:(ws.length:Int)≤(k:Int):=oM;simp [aV,atA,this])
  have HH:=zH (cV HR.out dM)
  clear h1
  go_enter Tryz.func60,Tryz.ntmps60
  go_wp2_with fail
  generalize (V.alloc (.cells #[.int .i64 c0,.int .i64 c1,.int .i64 c2,.int .i64 c3,.bool sn,.slice wA ws.length wc,.int .i64 top,.slice tA tb.length tc,.slice fA fr.length fc,.slice sA sl.length sc] 34)).alloc (.cells #[.int .i64 0,.int .i64 0,.int .i64 0,.bool false,.int .i64 0] 85)=W at*
  generalize V.heap.size+1=R at*
  have hrr:=hR.here
  have p0:W.cell? ⟨R,0,none⟩=some (.int .i64 0):=by simp [World.cell?,hrr]
  have p1:W.cell? ⟨R,1,none⟩=some (.int .i64 0):=by simp [World.cell?,hrr]
  have p2:W.cell? ⟨R,2,none⟩=some (.int .i64 0):=by simp [World.cell?,hrr]
  have p3:W.cell? ⟨R,3,none⟩=some (.bool false):=by simp [World.cell?,hrr]
  have p4:W.cell? ⟨R,4,none⟩=some (.int .i64 0):=by simp [World.cell?,hrr]
  have p5:∀o,W.frozen? ⟨R,o,none⟩=false:=fun o=>frozen_of_row _ _ _ _ _ hrr
  ((try simp only [Exit.inBlock,Exit.then]);refine bodyPost_ret (v:= .tuple #[.agg #[.int .i64 0,.int .i64 0,.int .i64 0,.bool false,.int .i64 0],.int .i64 2]) (by simp only [results,Tryz.results60];go_simp) rfl ?_)
  exact ⟨by rw [HH.out,HR.out];rfl,HX.out⟩
 have d1:decide (ws.length≤k)=false:=by simpa using h1
 obtain ⟨lb,off,rfl,hc⟩:=HW.here.get oM
 have cz:=cF hc h1
 have hzb:=hwb' _ (aH (d:=0) h1)
 have HAT:Hid (atA (some ws) k=0):=zH (by simp only [atA];rw [if_neg oM])
 have HRD:Hid (rdA (some ws) k=ws.getD k 0):=zH (by rw [rdA,if_pos HAT.out];simp)
 have hsub:wrap64 ((ws.length:Int) - (k:Int))=(ws.length:Int) - (k:Int):=IntWalk.wrap64_in _ ⟨by omega,by omega⟩
 have ib1:(k:Int) < (ws.length:Int):=by omega
 clear hc h1
 generalize ws.getD k 0=z at*
 obtain ⟨b,hb⟩:∃b,dO z.toNat=b:=⟨_,rfl⟩
 have HB:=zH hb
 clear hb
 go_enter Tryz.func60,Tryz.ntmps60
 go_wp2_with fail
 generalize (V.alloc (.cells #[.int .i64 c0,.int .i64 c1,.int .i64 c2,.int .i64 c3,.bool sn,.slice (some ⟨lb,off,none⟩) ws.length wc,.int .i64 top,.slice tA tb.length tc,.slice fA fr.length fc,.slice sA sl.length sc] 34)).alloc (.cells #[.int .i64 0,.int .i64 0,.int .i64 0,.bool false,.int .i64 0] 85)=W at*
 generalize V.heap.size+1=R at*
 have gS:=hS.cells
 have gR:=hR.cells
 have fR:=hR.frees
 have lR:=hR.lt
 clear cz
 cases b
 ·have HR:Hid (aV (some ws) k=3):=zH (by rw [aV,HAT.out,if_pos rfl,HRD.out,HB.out];rfl)
  have HH:=zH (cV HR.out dM)
  ((first | refine aK (W:=W) ?_ | refine aT (W:=W) ?_);intro uq;(try go_wp2_with fail))
  (refine (kE z hd0 3 hzb (by rw [cM,HB.out];rfl) (by rw [dP,HB.out];rfl) _).mono ?_;rintro e wq ⟨rfl,hx⟩;replace hx:=zt (a:=W) zE hx;obtain ⟨uq,rfl⟩:∃u:ExtOf W,wq=u.1:=⟨⟨wq,hx⟩,rfl⟩;clear hx;go_wp2_with fail)
  ((try simp only [Exit.inBlock,Exit.then]);refine bodyPost_ret (v:= .tuple #[.agg #[.int .i64 0,.int .i64 0,.int .i64 0,.bool false,.int .i64 0],.int .i64 3]) (by simp only [results,Tryz.results60];go_simp) rfl ?_)
  exact ⟨by rw [HH.out,HR.out];rfl,(vT (HX.out.trans uq.2) HVR.out _ _ _ _ _).alloc _⟩
 ·have HHE:Hid (aV (some ws) k=if (ws.length:Int) - k < ap (decH z.toNat)then 2 else 0):=zH (by rw [aV,HAT.out,if_pos rfl,HRD.out,HB.out,if_pos rfl];rfl)
  have HHH:Hid (aV (some ws) k=0→aJ (some ws) k=decH z.toNat):=zH (fun h=>by rw [aJ,if_pos h,HRD.out])
  have HD1:Hid (cM z.toNat=decH z.toNat):=zH (by rw [cM,HB.out];rfl)
  have HD2:Hid (dP z.toNat=0):=zH (by rw [dP,HB.out];rfl)
  generalize decH z.toNat=h at*
  obtain ⟨n,hn⟩:∃n,ap h=n:=⟨_,rfl⟩
  have HN:=zH hn
  clear hn gS gR fR lR
  ((first | refine aK (W:=W) ?_ | refine aT (W:=W) ?_);intro uq;(try go_wp2_with fail))
  (refine (kE z h 0 hzb HD1.out HD2.out _).mono ?_;rintro e w2 ⟨rfl,hx⟩;replace hx:=zt (a:=W) zE hx)
  have HBH:=aF w2 #[.int .i64 h.k,.int .i64 h.f,.int .i64 h.r,.bool h.m,.int .i64 h.c] 85 _ rfl
  replace hx:=hx.alloc (.cells #[.int .i64 h.k,.int .i64 h.f,.int .i64 h.r,.bool h.m,.int .i64 h.c] 85)
  replace hS:=hS.re hx
  replace hR:=hR.re hx
  replace HX:=zH (HX.out.trans hx)
  clear hx
  go_wp2_with fail
  generalize w2.alloc (.cells #[.int .i64 h.k,.int .i64 h.f,.int .i64 h.r,.bool h.m,.int .i64 h.c] 85)=W3 at*
  generalize w2.heap.size=X at*
  have gS:=hS.cells
  have gR:=hR.cells
  have fR:=hR.frees
  have lR:=hR.lt
  have g1:=HBH.cells
  have hx3:=zo W3
  by_cases hc:(ws.length:Int) - (k:Int) < n
  ·have hd:decide ((ws.length:Int) - (k:Int) < n)=true:=by simpa using hc
   have HR:Hid (aV (some ws) k=2):=zH (by rw [HHE.out,HN.out,if_pos hc])
   have HH:=zH (cV HR.out dM)
   clear hc
   (refine aC (W:=W3) kR kR aS ?_;(repeat (go_big_quiet_step (first | (go_at_call 104;with_reducible exact zq (cH h n HN.out _)))));refine wpQuiet_nil ?_;intro w1 hx)
   (obtain ⟨uq,rfl⟩:∃u:ExtOf W3,w1=u.1:=⟨⟨w1,hx⟩,rfl⟩;clear hx;go_wp2_with fail)
   ((try simp only [Exit.inBlock,Exit.then]);refine bodyPost_ret (v:= .tuple #[.agg #[.int .i64 0,.int .i64 0,.int .i64 0,.bool false,.int .i64 0],.int .i64 2]) (by simp only [results,Tryz.results60];go_simp) rfl ?_)
   exact ⟨by rw [HH.out,HR.out];rfl,vT (HX.out.trans (zu _)) HVR.out _ _ _ _ _⟩
  ·have hd:decide ((ws.length:Int) - (k:Int) < n)=false:=by simpa using hc
   have HR:Hid (aV (some ws) k=0):=zH (by rw [HHE.out,HN.out,if_neg hc])
   have HH:=zH (HHH.out HR.out)
   clear hc
   (refine aC (W:=W3) kR kR aS ?_;(repeat (go_big_quiet_step (first | (go_at_call 104;with_reducible exact zq (cH h n HN.out _)))));refine wpQuiet_nil ?_;intro w1 hx)
   (obtain ⟨uq,rfl⟩:∃u:ExtOf W3,w1=u.1:=⟨⟨w1,hx⟩,rfl⟩;clear hx;go_wp2_with fail)
   ((try simp only [Exit.inBlock,Exit.then]);refine bodyPost_ret (v:= .tuple #[.agg #[.int .i64 h.k,.int .i64 h.f,.int .i64 h.r,.bool h.m,.int .i64 h.c],.int .i64 0]) (by simp only [results,Tryz.results60];go_simp) rfl ?_)
   exact ⟨by rw [HH.out,HR.out],vT (HX.out.trans (zu _)) HVR.out _ _ _ _ _⟩
end
theorem rz {α:Type} {n:Nat} {f:α→List Value} (hf:Cells n f) (y:α) (j:Nat) (hj:j < n) (u:Value):∀(xs:List α) (k:Nat) (hk:k < xs.length),f y=(f xs[k]).set j u→(xs.set k y).flatMap f=(xs.flatMap f).set (k*n+j) u:=by
 intro xs
 induction xs with
 | nil=>intro k hk;simp at hk
 | cons x xs ih=>
  intro k hk h
  have hl:(f x).length=n:=hf.1 x
  cases k with
  | zero=>
   simp only [List.set_cons_zero,List.flatMap_cons,Nat.zero_mul,Nat.zero_add]
   rw [List.set_append_left _ _ oM]
   simp only [List.getElem_cons_zero]at h
   rw [h]
  | succ k=>
   simp only [List.set_cons_succ,List.flatMap_cons]
   have e:(k+1)*n+j=n+(k*n+j):=by rw [Nat.succ_mul];omega
   rw [List.set_append_right _ _ (by rw [hl,e];omega),hl,e,Nat.add_sub_cancel_left]
   congr 1
   exact ih k (by simpa using hk) (by simpa using h)
theorem uR {α:Type} {e:TypeId} {n:Nat} {f:α→List Value} {w:World} {B g N cap:Nat} {xs:List α} (hf:Cells n f) (h:Own e n f w B (.slice (some ⟨g,0,none⟩) N cap) xs) (hn:xs.length=N) (k j:Nat) (hk:k < xs.length) (hj:j < n) (y:α) (u:Value) (hy:f y=(f xs[k]).set j u):
  Own e n f (w.setCell ⟨g,k*n+j,none⟩ u) B (.slice (some ⟨g,0,none⟩) N cap) (xs.set k y):=by
 unfold Own at h⊢
 rw [List.length_set,rz hf y j hj u xs k hk hy,hn]
 rw [hn]at h
 exact (World.ownsRow.stored h (k*n+j) u).1
structure StB (s:StD):Prop where
 wb:∀z∈s.ws,0≤z∧z < 18446744073709551616
 tbb:∀x∈s.tb,(-9223372036854775808≤x.1∧x.1≤9223372036854775807)
 sb:∀x∈s.sl,0≤x.2.2∧x.2.2 < 18446744073709551616
theorem jS (s:StD) (k:Int) (hk:checkZ s.c0 s.c1 s.c2 s.c3 s.snd s.ws s.top s.tb s.fr s.sl=k) (V:World) (h:StAt V s) (hl:StLe s) (hb:StB s):Calls Tryz.prog 19 #[.agg #[.int .i64 s.c0,.int .i64 s.c1,.int .i64 s.c2,.int .i64 s.c3,.bool s.snd,.slice s.wA s.ws.length s.wc,.int .i64 s.top,.slice s.tA s.tb.length s.tc,.slice s.fA s.fr.length s.fc,.slice s.sA s.sl.length s.sc]] V fun e w'=>e= .returned (.int .i64 k)∧Ext V w':=by
 subst hk
 exact qV V (an h.w) (an h.t) (an h.f) (an h.s) hl.w hl.t hl.f hl.s hb.wb hb.tbb hb.sb
theorem dj (h:Hd) (b:Bool) (hb:dT h=b) (V:World):Calls Tryz.prog 117 #[.agg #[.int .i64 h.k,.int .i64 h.f,.int .i64 h.r,.bool h.m,.int .i64 h.c]] V fun e w'=>e= .returned (.bool b)∧Ext V w':=by
 obtain ⟨hk,hf,hr,m,c⟩:=h
 subst hb
 obtain ⟨b,hb⟩:∃b,(c==0)=b:=⟨_,rfl⟩
 cases m
 ·have HR:Hid (dT ⟨hk,hf,hr,false,c⟩=b):=zH (by simp [dT,←hb])
  go_enter Tryz.func117,Tryz.ntmps117
  go_wp2_with fail
  go_ret
  exact ⟨aD HR.out.symm,(zo V).alloc _⟩
 ·have HR:Hid (dT ⟨hk,hf,hr,true,c⟩=false):=zH (by simp [dT])
  go_enter Tryz.func117,Tryz.ntmps117
  go_wp2_with fail
  go_ret
  exact ⟨aD HR.out.symm,(zo V).alloc _⟩
theorem ie (b:Bool) (g z:Int) (r:Bool) (h:dF g=r) (V:World):Calls Tryz.prog 153 #[.agg #[.bool b,.int .i64 g,.int .u64 z]] V fun e w'=>e= .returned (.bool r)∧Ext V w':=by
 subst h
 by_cases h1:0≤g
 ·have d1:decide (0≤g)=true:=by simpa using h1
  have HR:Hid (dF g=decide (g < 1099511627776)):=zH (by simp [dF,h1])
  clear h1
  go_enter Tryz.func153,Tryz.ntmps153
  go_wp2_with fail
  go_ret
  exact ⟨aD HR.out.symm,(zo V).alloc _⟩
 ·have d1:decide (0≤g)=false:=by simpa using h1
  have HR:Hid (dF g=false):=zH (by simp [dF];omega)
  clear h1
  go_enter Tryz.func153,Tryz.ntmps153
  go_wp2_with fail
  go_ret
  exact ⟨aD HR.out.symm,(zo V).alloc _⟩
theorem dg (v t x er:Int) (h1:decT v=t) (h2:decX v=x) (h3:decE v=er) (w:World) (h0:0≤v∧v < 18446744073709551616):
  Calls Tryz.prog 71 #[.int .u64 v] w fun e w'=>e= .returned (.tuple #[.agg #[.int .i64 t,.int .i64 x],.int .i64 er])∧Ext w w':=by
 subst h1 h2 h3
 exact kN v w h0.1 h0.2
theorem oq (A:Option Addr) (cap:Nat) (zs:List Int) (v:Int) (V:World) (hl:IntsAt V A zs) (hlen:zs.length≤9223372036854775807) (hv:0≤v∧v < 18446744073709551616):
  Calls Tryz.prog 120 #[.slice A zs.length cap,.int .u64 v] V fun e w'=>e= .returned (.bool (bj (fun x=>decide (x∈zs)) v))∧Ext V w':=by
 have HL:=an hl
 obtain ⟨t,ht⟩:∃t,decT v=t:=⟨_,rfl⟩
 obtain ⟨x,hx⟩:∃t,decX v=t:=⟨_,rfl⟩
 obtain ⟨er,her⟩:∃t,decE v=t:=⟨_,rfl⟩
 have HLB:Hid (bj (fun x=>decide (x∈zs)) v=(decide (er=0) && (!(t==2) || decide (x∈zs)))):=zH (by simp only [bj,her,ht,hx])
 have HT:=zH ht
 have HXX:=zH hx
 have HE:=zH her
 clear hl ht hx her
 by_cases h0:er=0
 rotate_left
 ·have q0:(er !=0)=true:=by rw [bne_iff_ne];exact h0
  have HR:Hid (bj (fun x=>decide (x∈zs)) v=false):=zH (by rw [HLB.out,decide_eq_false h0];rfl)
  clear h0
  go_enter Tryz.func120,Tryz.ntmps120
  go_wp2_with fail
  refine (dg v t x er HT.out HXX.out HE.out _ hv).mono ?_
  rintro e w1 ⟨rfl,hx⟩
  have HX:=zH hx
  clear hx
  go_wp2_with fail
  go_ret
  exact ⟨aD HR.out.symm,HX.out.alloc _⟩
 subst h0
 by_cases h2:t=2
 rotate_left
 ·have q2:(t !=2)=true:=by rw [bne_iff_ne];exact h2
  have HR:Hid (bj (fun x=>decide (x∈zs)) v=true):=zH (by rw [HLB.out];simp [h2])
  clear h2
  go_enter Tryz.func120,Tryz.ntmps120
  go_wp2_with fail
  refine (dg v t x 0 HT.out HXX.out HE.out _ hv).mono ?_
  rintro e w1 ⟨rfl,hx⟩
  have HX:=zH hx
  clear hx
  go_wp2_with fail
  go_ret
  exact ⟨aD HR.out.symm,HX.out.alloc _⟩
 subst h2
 have HR:Hid (bj (fun x=>decide (x∈zs)) v=decide (x∈zs)):=zH (by rw [HLB.out];simp)
 go_enter Tryz.func120,Tryz.ntmps120
 go_wp2_with fail
 refine (dg v 2 x 0 HT.out HXX.out HE.out _ hv).mono ?_
 rintro e w1 ⟨rfl,hx⟩
 have HX:=zH (hx.alloc (.cells #[.int .i64 2,.int .i64 x] 71))
 clear hx
 go_wp2_with fail
 refine (mW A cap zs x _ hlen (HL.at HX.out)).mono ?_
 rintro e w2 ⟨rfl,hx⟩
 have HX2:=zH (HX.out.trans hx)
 clear hx
 go_wp2_with fail
 go_ret
 exact ⟨aD HR.out.symm,HX2.out⟩
theorem lQ (A:Option Addr) (cap:Nat) (sl:List (Bool×Int×Int)) (n:Int) (V:World) (hl:SlotsAt V A sl) (hlen:sl.length≤9223372036854775807) (hbd:∀x∈sl,0≤x.2.2∧x.2.2 < 18446744073709551616):
  Calls Tryz.prog 119 #[.slice A sl.length cap,.int .i64 n] V fun e w'=>e= .returned (.bool (bL sl n))∧Ext V w':=by
 have HL:=an hl
 have HBD:=zH hbd
 clear hl hbd
 by_cases h1:(sl.length:Int)=n
 rotate_left
 ·have q1:((sl.length:Int) !=n)=true:=by rw [bne_iff_ne];exact h1
  have HR:Hid (bL sl n=false):=zH (by simp [bL];omega)
  clear h1
  go_enter Tryz.func119,Tryz.ntmps119
  go_wp2_with fail
  go_ret
  exact ⟨aD HR.out.symm,zo _⟩
 have q1:((sl.length:Int) !=n)=false:=by rw [bne_eq_false_iff_eq];exact h1
 by_cases h2:n < 1
 ·have q2:decide (n < 1)=true:=by simpa using h2
  have HR:Hid (bL sl n=false):=zH (by simp [bL];omega)
  clear h1 h2
  go_enter Tryz.func119,Tryz.ntmps119
  go_wp2_with fail
  go_ret
  exact ⟨aD HR.out.symm,zo _⟩
 have q2:decide (n < 1)=false:=by simpa using h2
 by_cases h3:1024 < n
 ·have q3:decide (1024 < n)=true:=by simpa using h3
  have HR:Hid (bL sl n=false):=zH (by simp [bL];omega)
  clear h1 h2 h3
  go_enter Tryz.func119,Tryz.ntmps119
  go_wp2_with fail
  go_ret
  exact ⟨aD HR.out.symm,zo _⟩
 have q3:decide (1024 < n)=false:=by simpa using h3
 have HNN:Hid ((sl.length:Int)=n∧1≤n∧n≤1024):=zH oM
 clear h1 h2 h3
 go_enter Tryz.func119,Tryz.ntmps119
 go_wp2_with fail
 clear q1 q2 q3
 go_loopw [5,6,7] (fun i _ _ wr=>∃k:Nat,k≤sl.length∧i= .int .i64 k∧Ext V wr∧Hid (∀i,i < k→fj (sl.getD i (false,0,0))=true)) (fun i _ _ _=>sl.length - (intOf i).toNat)
 case atStart=>exact ⟨0,by omega,rfl,zo _,zH oM⟩
 case round=>
  obtain ⟨k,hk,rfl,hxr,hq⟩:=hrel
  by_cases hlt:k < sl.length
  rotate_left
  ·have HA:Hid (sl.all fj=true):=zH (d8 fun i hi=>hq.out i oM)
   have HR:Hid (bL sl n=true):=zH (by simp only [bL,HA.out,Bool.true_and,decide_eq_true_eq];exact HNN.out)
   clear hq
   go_wp2_with fail
   go_ret
   exact ⟨aD HR.out.symm,hxr⟩
  obtain ⟨lb,off,rfl,hc⟩:=(HL.at hxr).get oM
  obtain ⟨c1,c2,c3⟩:=de hc hlt
  have ib0:(0:Int)≤(k:Int):=by omega
  have ib1:(k:Int) < (sl.length:Int):=by omega
  have hzb:=HBD.out _ (aH (d:=(false,0,0)) hlt)
  have HY:=zH (fun (h:fj (sl.getD k (false,0,0))=true)=>upTo hq.out h)
  have HNO:=zH (fun (h:fj (sl.getD k (false,0,0))=false)=>(by rw [bL,cg hlt h];rfl:bL sl n=false))
  have HX:=zH hxr
  clear hc HL HBD hq
  replace c1:=aG c1
  replace c2:=aG c2
  replace c3:=aG c3
  generalize sl.getD k (false,0,0)=x at*
  obtain ⟨b,g,z⟩:=x
  simp only at c1 c2 c3 hzb
  obtain ⟨t,ht⟩:∃t,decT z=t:=⟨_,rfl⟩
  obtain ⟨x,hx⟩:∃t,decX z=t:=⟨_,rfl⟩
  obtain ⟨er,her⟩:∃t,decE z=t:=⟨_,rfl⟩
  have HSB:Hid (fj (b,g,z)=(decide (er=0) && (dF g || (!b && (g==1099511627776))) && (b || (z==0)))):=zH (by simp only [fj,her])
  have HT:=zH ht
  have HXX:=zH hx
  have HE:=zH her
  clear ht hx her hxr
  cases b
  ·by_cases g1:g < 0
   ·have d1:decide (g < 0)=true:=by simpa using g1
    have HR:=zH (HNO.out (by rw [HSB.out];have:dF g=false:=by {simp [dF];omega};have h2:(g==1099511627776)=false:=by {rw [beq_eq_false_iff_ne];omega};rw [this,h2];simp))
    clear g1
    ((first | refine aK (W:=wr) ?_ | refine aT (W:=wr) ?_);intro uq;(try go_wp2_with fail))
    go_ret
    exact ⟨aD HR.out.symm,HX.out.trans (zu _)⟩
   have d1:decide (g < 0)=false:=by simpa using g1
   by_cases g2:1099511627776 < g
   ·have d2:decide (1099511627776 < g)=true:=by simpa using g2
    have HR:=zH (HNO.out (by rw [HSB.out];have:dF g=false:=by {simp [dF];omega};have h2:(g==1099511627776)=false:=by {rw [beq_eq_false_iff_ne];omega};rw [this,h2];simp))
    clear g1 g2
    ((first | refine aK (W:=wr) ?_ | refine aT (W:=wr) ?_);intro uq;(try go_wp2_with fail))
    go_ret
    exact ⟨aD HR.out.symm,HX.out.trans (zu _)⟩
   have d2:decide (1099511627776 < g)=false:=by simpa using g2
   have HGG:Hid ((dF g || (g==1099511627776))=true):=zH (by simp [dF];omega)
   clear g1 g2
   by_cases z0:z=0
   rotate_left
   ·have d3:(z !=0)=true:=by rw [bne_iff_ne];exact z0
    have HR:=zH (HNO.out (by rw [HSB.out];have:(z==0)=false:=by {rw [beq_eq_false_iff_ne];exact z0};rw [this];simp))
    clear z0
    ((first | refine aK (W:=wr) ?_ | refine aT (W:=wr) ?_);intro uq;(try go_wp2_with fail))
    go_ret
    exact ⟨aD HR.out.symm,HX.out.trans (zu _)⟩
   have d3:(z !=0)=false:=by rw [bne_eq_false_iff_eq];exact z0
   have HZ0:=zH z0
   clear z0
   by_cases h0:er=0
   rotate_left
   ·have q0:(er !=0)=true:=by rw [bne_iff_ne];exact h0
    have HR:=zH (HNO.out (by rw [HSB.out,decide_eq_false h0];rfl))
    clear h0
    ((first | refine aK (W:=wr) ?_ | refine aT (W:=wr) ?_);intro uq;(try go_wp2_with fail))
    (refine (dg z t x er HT.out HXX.out HE.out _ hzb).mono ?_;rintro e wq ⟨rfl,hx⟩;replace hx:=zt (a:=wr) zE hx;obtain ⟨uq,rfl⟩:∃u:ExtOf wr,wq=u.1:=⟨⟨wq,hx⟩,rfl⟩;clear hx;go_wp2_with fail)
    go_ret
    exact ⟨aD HR.out.symm,(HX.out.trans (zu _)).alloc _⟩
   subst h0
   have HYY:=zH (HY.out (by rw [HSB.out,HZ0.out];have:=HGG.out;simpa using this))
   ((first | refine aK (W:=wr) ?_ | refine aT (W:=wr) ?_);intro uq;(try go_wp2_with fail))
   (refine (dg z t x 0 HT.out HXX.out HE.out _ hzb).mono ?_;rintro e wq ⟨rfl,hx⟩;replace hx:=zt (a:=wr) zE hx;obtain ⟨uq,rfl⟩:∃u:ExtOf wr,wq=u.1:=⟨⟨wq,hx⟩,rfl⟩;clear hx;go_wp2_with fail)
   go_roundw
   case rel=>exact ⟨k+1,by omega,by go_num,(HX.out.trans (zu _)).alloc _,HYY⟩
   case measure=>simp [intOf];omega
  ·obtain ⟨gd,hgd⟩:∃t,dF g=t:=⟨_,rfl⟩
   have HG:=zH hgd
   cases gd
   ·have HR:=zH (HNO.out (by rw [HSB.out,HG.out];simp))
    clear hgd
    ((first | refine aK (W:=wr) ?_ | refine aT (W:=wr) ?_);intro uq;(try go_wp2_with fail))
    (refine (ie true g z false HG.out _).mono ?_;rintro e wq ⟨rfl,hx⟩;replace hx:=zt (a:=wr) zE hx;obtain ⟨uq,rfl⟩:∃u:ExtOf wr,wq=u.1:=⟨⟨wq,hx⟩,rfl⟩;clear hx;go_wp2_with fail)
    go_ret
    exact ⟨aD HR.out.symm,HX.out.trans (zu _)⟩
   have hgb:0≤g∧g < 1099511627776:=by simpa [dF]using hgd
   have d1:decide (g < 0)=false:=by simp;omega
   have d2:decide (1099511627776 < g)=false:=by simp;omega
   clear hgd hgb
   by_cases h0:er=0
   rotate_left
   ·have q0:(er !=0)=true:=by rw [bne_iff_ne];exact h0
    have HR:=zH (HNO.out (by rw [HSB.out,decide_eq_false h0];rfl))
    clear h0
    ((first | refine aK (W:=wr) ?_ | refine aT (W:=wr) ?_);intro uq;(try go_wp2_with fail))
    (refine (ie true g z true HG.out _).mono ?_;rintro e wq ⟨rfl,hx⟩;replace hx:=zt (a:=wr) zE hx;obtain ⟨uq,rfl⟩:∃u:ExtOf wr,wq=u.1:=⟨⟨wq,hx⟩,rfl⟩;clear hx;go_wp2_with fail)
    (refine (dg z t x er HT.out HXX.out HE.out _ hzb).mono ?_;rintro e wq ⟨rfl,hx⟩;replace hx:=zt (a:=wr) zE hx;obtain ⟨uq,rfl⟩:∃u:ExtOf wr,wq=u.1:=⟨⟨wq,hx⟩,rfl⟩;clear hx;go_wp2_with fail)
    go_ret
    exact ⟨aD HR.out.symm,(HX.out.trans (zu _)).alloc _⟩
   subst h0
   have HYY:=zH (HY.out (by rw [HSB.out,HG.out];simp))
   ((first | refine aK (W:=wr) ?_ | refine aT (W:=wr) ?_);intro uq;(try go_wp2_with fail))
   (refine (ie true g z true HG.out _).mono ?_;rintro e wq ⟨rfl,hx⟩;replace hx:=zt (a:=wr) zE hx;obtain ⟨uq,rfl⟩:∃u:ExtOf wr,wq=u.1:=⟨⟨wq,hx⟩,rfl⟩;clear hx;go_wp2_with fail)
   (refine (dg z t x 0 HT.out HXX.out HE.out _ hzb).mono ?_;rintro e wq ⟨rfl,hx⟩;replace hx:=zt (a:=wr) zE hx;obtain ⟨uq,rfl⟩:∃u:ExtOf wr,wq=u.1:=⟨⟨wq,hx⟩,rfl⟩;clear hx;go_wp2_with fail)
   go_roundw
   case rel=>exact ⟨k+1,by omega,by go_num,(HX.out.trans (zu _)).alloc _,HYY⟩
   case measure=>simp [intOf];omega
section
variable {α : Type} {e : TypeId} {n : Nat} {f : α → List Value} {w : World} {B g N cap : Nat} {xs : List α}
theorem fI (hf:Cells n f) (h0:0 < n) (h:Own e n f w B (.slice (some ⟨g,0,none⟩) N cap) xs) (hn:xs.length=N) (k j:Nat) (hk:k < xs.length) (v:Value) (hv:(f xs[k])[j]?=some v):w.cell? ⟨g,k*n+j,none⟩=some v:=by
 subst hn
 have hr:=(ag h hf h0).1
 obtain ⟨b,off,e1,hc⟩:=RowAt.get hr oM
 injection e1 with e1
 injection e1 with e1 e2 _
 subst e1 e2
 have:=hc k xs[k] (by simp [hk]) j v hv
 simpa using this
theorem lU (h:Own e n f w B (.slice (some ⟨g,0,none⟩) N cap) xs) (i:Nat):w.frozen? ⟨g,i,none⟩=false:=by
 obtain ⟨cur,hc⟩:=ci h
 exact (aB hc).2 i
end
section
variable {B g : Nat} {w : World} {s : StD}
theorem StOwn.setW (h:StOwn B w s) (hA:s.wA=some ⟨g,0,none⟩) (k:Nat) (z:Int):StOwn B (w.setCell ⟨g,k,none⟩ (.int .u64 z)) {s with ws:=s.ws.set k z}:=by
 have hw:=h.w
 rw [hA]at hw
 obtain ⟨cur,hc⟩:=ci hw
 refine ⟨?_,h.t.setOther hc dM,h.f.setOther hc dM,h.s.setOther hc dM⟩
 simp only [List.length_set,hA]
 exact wC hw rfl k z
theorem StOwn.setS (h:StOwn B w s) (hA:s.sA=some ⟨g,0,none⟩) (k j:Nat) (hk:k < s.sl.length) (hj:j < 3) (y:Bool×Int×Int) (u:Value) (hy:fO y=(fO s.sl[k]).set j u):StOwn B (w.setCell ⟨g,k*3+j,none⟩ u) {s with sl:=s.sl.set k y}:=by
 have hs:=h.s
 rw [hA]at hs
 obtain ⟨cur,hc⟩:=ci hs
 refine ⟨h.w.setOther hc dM,h.t.setOther hc dM,h.f.setOther hc dM,?_⟩
 simp only [List.length_set,hA]
 exact uR eq hs rfl k j hk hj y u hy
end
end Go.Proofs.YtphpppjfogpohaaGreat
