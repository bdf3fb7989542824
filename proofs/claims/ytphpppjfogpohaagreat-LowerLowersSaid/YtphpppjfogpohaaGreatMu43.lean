/- Merged by program (merge.py) out of: LowQ. -/
import Derived.Test.YtphpppjfogpohaaGreatMu14
import Derived.Test.YtphpppjfogpohaaGreatMu18
import Derived.Test.YtphpppjfogpohaaGreatMu16
import Derived.Test.YtphpppjfogpohaaGreatMu7
set_option linter.unusedSimpArgs false
set_option linter.unusedVariables false
set_option maxRecDepth 100000
set_option maxHeartbeats 16000000
namespace Go.Proofs.YtphpppjfogpohaaGreat
open Go.RowKit Go.Shelf
theorem hword_sum {h:Hd} (hm:hmayB h=true):hwordZ h=(((h.c*1099511627776+h.r*16777216+h.f*256+h.k*8+3)+(if h.m then 4 else 0)):Int):=by
 have h2:=hm
 simp only [hmayB,decide_eq_true_eq]at h2
 rw [hwordZ,if_pos hm,hwordN]
 cases h.m <;>simp <;>omega
theorem refhenc_any (h:Hd) (V:World):Calls Tryz.prog 96 #[.agg #[.int .i64 h.k,.int .i64 h.f,.int .i64 h.r,.bool h.m,.int .i64 h.c]] V fun e w'=>e= .returned (.tuple #[.int .u64 (hwordZ h),.int .i64 (herrZ h)])∧Ext V w':=by
 have hb5:=blk_new V #[.int .i64 h.k,.int .i64 h.f,.int .i64 h.r,.bool h.m,.int .i64 h.c] 85 _ rfl
 have HX:=zH ((Ext.refl V).alloc (.cells #[.int .i64 h.k,.int .i64 h.f,.int .i64 h.r,.bool h.m,.int .i64 h.c] 85))
 have HB5:=zH hb5
 obtain ⟨b,hb⟩:∃b,hmayB h=b:=⟨_,rfl⟩
 have HM:=zH hb
 clear hb5 hb
 go_enter Tryz.func96,Tryz.ntmps96
 go_wp2_with fail
 refine (refhmay_is h b HM.out _).mono ?_
 rintro e w1 ⟨rfl,hx⟩
 have hb1:=(hx.block (lt_of_heap HB5.out)).trans HB5.out
 have g0:w1.cell? ⟨V.heap.size,0,none⟩=some (.int .i64 h.k):=by simp [World.cell?,hb1]
 have g1:w1.cell? ⟨V.heap.size,1,none⟩=some (.int .i64 h.f):=by simp [World.cell?,hb1]
 have g2:w1.cell? ⟨V.heap.size,2,none⟩=some (.int .i64 h.r):=by simp [World.cell?,hb1]
 have g3:w1.cell? ⟨V.heap.size,3,none⟩=some (.bool h.m):=by simp [World.cell?,hb1]
 have g4:w1.cell? ⟨V.heap.size,4,none⟩=some (.int .i64 h.c):=by simp [World.cell?,hb1]
 have HX1:=zH (HX.out.trans hx)
 clear hx hb1
 cases b
 ·have HS:Hid (hwordZ h=0∧herrZ h=1):=zH (by rw [hwordZ,herrZ,HM.out];exact ⟨rfl,rfl⟩)
  go_wp2_with fail
  go_ret2
  rw [HS.out.1,HS.out.2]
  exact ⟨rfl,HX1.out⟩
 ·have HS:=zH (hword_sum HM.out)
  have HE:Hid (herrZ h=0):=zH (by rw [herrZ,HM.out];rfl)
  have hbd:=HM.out
  simp only [hmayB,decide_eq_true_eq]at hbd
  have HBD:=zH hbd
  clear hbd
  obtain ⟨k,f,r,m,c⟩:=h
  simp only at g0 g1 g2 g3 g4 HBD
  cases m
  ·go_wp2_with fail
   go_ret2
   refine ⟨?_,HX1.out⟩
   have:=HBD.out
   rw [HS.out,HE.out]
   congr 4
   simp [IntKind.wrap,IntKind.signed,IntKind.bits]
   omega
  ·go_wp2_with fail
   go_ret2
   refine ⟨?_,HX1.out⟩
   have:=HBD.out
   rw [HS.out,HE.out]
   congr 4
   simp [IntKind.wrap,IntKind.signed,IntKind.bits]
   omega
def TakeFull (A:Option Addr) (cap:Nat) (n:Int) (xs:List (Int×Int)) (V:World) (e:Ending) (w':World):Prop:=
 ∃(ys:List (Int×Int)) (p er:Int) (m:Nat) (A2:Option Addr) (cap2:Nat),TakeRes n xs ys p er∧m=ys.length∧e= .returned (.tuple #[.slice A2 m cap2,.int .i64 p,.int .i64 er])∧SpansAt w' A2 ys∧Ext V w'∧∀B,B≤V.heap.size→OwnS V B (.slice A xs.length cap) xs→OwnS w' B (.slice A2 m cap2) ys
theorem reftake_one (b off cap:Nat) (a s:Int) (n:Int) (V:World) (hcap:1≤cap) (hn:1≤n∧n≤1000000) (hm:mayB a s=true) (hl:SpansAt V (some ⟨b,off,none⟩) [(a,s)]):
  Calls Tryz.prog 52 #[.slice (some ⟨b,off,none⟩) 1 cap,.int .i64 n] V (TakeFull (some ⟨b,off,none⟩) cap n [(a,s)] V):=by
 have dn:decide (n < 1)=false:=by simp;omega
 obtain ⟨b',off',e0,hc⟩:=hl.get (by simp)
 simp only [Option.some.injEq,Addr.mk.injEq,and_true]at e0
 obtain ⟨rfl,rfl⟩:=e0
 obtain ⟨e1,e2⟩:=spans_cell hc (k:=0) (by simp)
 simp only [List.getD_cons_zero,Nat.zero_mul,Nat.add_zero]at e1 e2
 have HL:=zH hl
 have HM:=zH hm
 have HN:=zH hn
 have hbd:=may_bd hm
 have HBD:=zH hbd
 clear hc hl hm hn
 by_cases hlt:s < n
 ·have d2:decide (s < n)=true:=by simpa using hlt
  have HS:=zH hlt
  clear hlt
  go_enter Tryz.func52,Tryz.ntmps52
  go_wp2_with fail
  refine wp_loop_rounds 2 ?_
  rw [rounds_succ]
  go_wp2_with fail
  refine (refmay_is a s true HM.out _).mono ?_
  rintro e w1 ⟨rfl,hx⟩
  have c1:=hx.cell e1
  have c2:=hx.cell e2
  have HX:=zH hx
  clear hx e1 e2
  go_wp2_with fail
  rw [rounds_succ]
  go_wp2_with fail
  go_ret3
  exact ⟨[(a,s)],0,9,1,_,cap,.inr (.inl ⟨HN.out.1,fun x hx=>by
   obtain rfl:=List.mem_singleton.1 hx
   have:=HS.out
   simp only [takeP,Bool.and_eq_false_iff,decide_eq_false_iff_not]
   omega,rfl,rfl,rfl⟩),rfl,rfl,HL.out.ext HX.out,HX.out,fun B _ h=>h.ext HX.out⟩
 ·have d2:decide (s < n)=false:=by simpa using hlt
  have HS:=zH hlt
  clear hlt
  have HT:Hid (takeP n (a,s)=true):=zH (by
   have:=HS.out
   simp only [takeP,Bool.and_eq_true,decide_eq_true_eq]
   exact ⟨HM.out,by omega⟩)
  have HI:Hid (idxZ (takeP n) [(a,s)]=(0:Nat)):=zH (idx_hit (k:=0) (by simp) HT.out (by omega))
  go_enter Tryz.func52,Tryz.ntmps52
  go_wp2_with fail
  refine wp_loop_rounds 2 ?_
  rw [rounds_succ]
  go_wp2_with fail
  refine (refmay_is a s true HM.out _).mono ?_
  rintro e w1 ⟨rfl,hx⟩
  have c1:=hx.cell e1
  have c2:=hx.cell e2
  have HX:=zH hx
  clear hx
  obtain ⟨ad,had⟩:∃ad,cutA (some ⟨b,off,none⟩) cap 1=some ad:=by unfold cutA;split <;>exact ⟨_,rfl⟩
  have HAD:=zH had
  clear had
  by_cases hsn:n < s
  ·have d4:decide (s >n)=true:=by simpa using hsn
   have HSN:=zH hsn
   clear hsn
   go_wp2_with (at_builtin;refine wpList_app rfl (.tmp 33) (.tmp 36) 31 rfl spanInfo spanCells rfl (by exact Own.empty 63 2 spanC w1 w1.heap.size (Nat.le_refl _)) [] ⟨b,off,none⟩ cap 0 0 (by simp) (by simp) rfl (by exact RowAt.none _ _ _) (by omega) (by simp [maxLen]) (by simp) ?_;intro A3 cap3 w3 hown3 hgr3 hat3;have HO3:=zH hown3;have HX3:Hid (Ext w1 w3):=zH (Own.below (Own.empty 63 2 spanC w1 w1.heap.size (Nat.le_refl _)) ((Below.refl _ _).alloc (Nat.le_refl _) _) hgr3 (by simp));have c5:=HX3.out.cell c1;have c6:=HX3.out.cell c2;clear hown3 hgr3 hat3)
   have HXV:=zH (HX.out.trans HX3.out)
   have l0:=fun u:ExtOf w3=>u.2.cell (HX3.out.cell c1)
   have l1:=fun u:ExtOf w3=>u.2.cell (HX3.out.cell c2)
   have hs0:Ext w3 w3:=Ext.refl _
   have dw:wrap64 (a+n)=a+n:=IntWalk.wrap64_in _ (by have:=HBD.out;have:=HN.out;omega)
   have dv:wrap64 (s - n)=s - n:=IntWalk.wrap64_in _ (by have:=HBD.out;have:=HN.out;omega)
   clear c1 c2 c5 c6
   (refine wp_region_ord (W:=w3) [(0,true),(1,true),(2,true),(3,true),(4,true),(5,true),(6,true),(7,true),(8,true),(9,true),(10,true),(11,true),(12,true),(13,true),(14,true),(15,true)] [16] [17,18] (by kernel_rfl) (by kernel_rfl) (by intro c a d v w h;cases d <;>first | exact h | (cases h;done) | cases h.1.1 | cases h.1) (by with_reducible assumption) ?_;simp only [opsOf,List.map_cons,List.map_nil,List.getD_cons_zero,List.getD_cons_succ];(repeat (go_big_quiet_step (fail)));refine wpQuiet_nil ?_;intro w1 hx;(repeat (refine mid_step (by rfl) ?_;intro K hK;go_simp;refine hK _ _ zG ?_;clear hK K));refine mid_nil ?_)
   have HO4:=zH (HO3.out.ext hx)
   have hsz:=hx.size
   go_wp2_with (at_builtin;refine wpList_app_lit rfl (.tmp 45) (.tmp 61) 31 rfl spanInfo spanCells rfl HO4.out [(a+n,s - n)] 1 _ rfl 1 1 (by simp) rfl _ rfl (by first | rfl | simp) (by omega) (by simp [maxLen]) (by have:=HX3.out.size;omega) ?_;intro A4 cap4 w4 ho4 hg4 ht4;have HOW:=zH (ho4.mono (B':=V.heap.size) HX.out.size);have HX4:Hid (Ext V w4):=zH (Own.below (HO4.out.mono (B':=V.heap.size) HX.out.size) ((HXV.out.trans hx).alloc _) hg4 (by have:=(HXV.out.trans hx).size;simp;omega));clear ho4 hg4 ht4)
   replace HXV:=HX4
   have l0:=fun u:ExtOf V=>u.2.cell e1
   have l1:=fun u:ExtOf V=>u.2.cell e2
   (refine wp_region_exact (fun w'=>∃u:ExtOf V,w'=u.1) [0,1,2,3,4,6,7,8,9,10] [5,11,12,13] [] (by kernel_rfl) (by kernel_rfl) (by intro c a d v w h;cases d <;>first | exact h | (cases h;done) | cases h.1.1 | cases h.1) ⟨⟨_,HXV.out.drew⟩,rfl⟩ ?_;simp only [opsOf,List.map_cons,List.map_nil,List.getD_cons_zero,List.getD_cons_succ];(repeat (go_big_quiet_step (fail)));refine wpQuiet_nil ?_;refine mid_step (by rfl) ?_;intro K hK;refine wp_app (.tmp 63) (.tmp 67) 31 rfl spanInfo spanCells rfl (by exact HOW.out.ext (Ext.drew (Ext.refl _))) ad (cap - 1) [] 1 0 (by simp) rfl (by show Value.slice (cutA _ _ _) _ _=_;rw [HAD.out]) (by exact RowAt.none _ _ _) (by omega) (by simp [maxLen]) (by exact HXV.out.size) ?_;intro A5 cap5 w5 hown5 hgr5 hat5;have HX5:Hid (Ext V w5):=zH (Own.below HOW.out HXV.out.drew (by exact hgr5) (by exact HXV.out.size));have HO5:=zH hown5;refine hK _ _ ⟨⟨_,HX5.out⟩,rfl⟩ ?_;clear hK K hgr5 hat5 hown5;(repeat ((refine mid_step (by rfl) ?_;intro K hK;go_simp);refine hK _ _ ⟨⟨_,HX5.out⟩,rfl⟩ ?_;clear hK K));refine mid_nil ?_;go_wp2_with fail)
   all_goals
    go_ret3
    exact ⟨[(a+n,s - n)],a,0,1,A5,cap5,.inr (.inr ⟨HN.out.1,0,by simp,HI.out,HT.out,by simp [takeL,gt];have:=HSN.out;omega,rfl,rfl⟩),rfl,rfl,HO5.out.spans,HX5.out,fun B hB _=>HO5.out.mono hB⟩
  ·have d4:decide (s >n)=false:=by simpa using hsn
   have HSN:=zH hsn
   clear hsn
   go_wp2_with (at_builtin;refine wpList_app rfl (.tmp 33) (.tmp 36) 31 rfl spanInfo spanCells rfl (by exact Own.empty 63 2 spanC w1 w1.heap.size (Nat.le_refl _)) [] ⟨b,off,none⟩ cap 0 0 (by simp) (by simp) rfl (by exact RowAt.none _ _ _) (by omega) (by simp [maxLen]) (by simp) ?_;intro A3 cap3 w3 hown3 hgr3 hat3;have HO3:=zH hown3;have HX3:Hid (Ext w1 w3):=zH (Own.below (Own.empty 63 2 spanC w1 w1.heap.size (Nat.le_refl _)) ((Below.refl _ _).alloc (Nat.le_refl _) _) hgr3 (by simp));have c5:=HX3.out.cell c1;have c6:=HX3.out.cell c2;clear hown3 hgr3 hat3)
   have HXV:=zH (HX.out.trans HX3.out)
   have l0:=fun u:ExtOf V=>u.2.cell e1
   have l1:=fun u:ExtOf V=>u.2.cell e2
   have HOW:Hid (OwnS w3 V.heap.size (.slice A3 0 cap3) []):=zH (HO3.out.mono (B':=V.heap.size) HX.out.size)
   clear c1 c2 c5 c6
   (refine wp_region_exact (fun w'=>∃u:ExtOf V,w'=u.1) [0,1,2,3,4,6,7,8,9,10] [5,11,12,13] [] (by kernel_rfl) (by kernel_rfl) (by intro c a d v w h;cases d <;>first | exact h | (cases h;done) | cases h.1.1 | cases h.1) ⟨⟨_,HXV.out.drew⟩,rfl⟩ ?_;simp only [opsOf,List.map_cons,List.map_nil,List.getD_cons_zero,List.getD_cons_succ];(repeat (go_big_quiet_step (fail)));refine wpQuiet_nil ?_;refine mid_step (by rfl) ?_;intro K hK;refine wp_app (.tmp 63) (.tmp 67) 31 rfl spanInfo spanCells rfl (by exact HOW.out.ext (Ext.drew (Ext.refl _))) ad (cap - 1) [] 0 0 (by simp) rfl (by show Value.slice (cutA _ _ _) _ _=_;rw [HAD.out]) (by exact RowAt.none _ _ _) (by omega) (by simp [maxLen]) (by exact HXV.out.size) ?_;intro A5 cap5 w5 hown5 hgr5 hat5;have HX5:Hid (Ext V w5):=zH (Own.below HOW.out HXV.out.drew (by exact hgr5) (by exact HXV.out.size));have HO5:=zH hown5;refine hK _ _ ⟨⟨_,HX5.out⟩,rfl⟩ ?_;clear hK K hgr5 hat5 hown5;(repeat ((refine mid_step (by rfl) ?_;intro K hK;go_simp);refine hK _ _ ⟨⟨_,HX5.out⟩,rfl⟩ ?_;clear hK K));refine mid_nil ?_;go_wp2_with fail)
   all_goals
    go_ret3
    exact ⟨[],a,0,0,A5,cap5,.inr (.inr ⟨HN.out.1,0,by simp,HI.out,HT.out,by simp [takeL,gt];have:=HSN.out;have:=HS.out;omega,rfl,rfl⟩),rfl,rfl,HO5.out.spans,HX5.out,fun B hB _=>HO5.out.mono hB⟩
theorem reftake_fr (A:Option Addr) (cap:Nat) (xs:List (Int×Int)) (n:Int) (V:World) (hcap:xs.length≤cap) (hn:1≤n∧n≤1000000) (hxs:xs= []∨∃a s,xs= [(a,s)]∧mayB a s=true) (hl:SpansAt V A xs):
  Calls Tryz.prog 52 #[.slice A xs.length cap,.int .i64 n] V (TakeFull A cap n xs V):=by
 rcases hxs with rfl | ⟨a,s,rfl,hm⟩
 ·have dn:decide (n < 1)=false:=by simp;omega
  have HN:=zH hn
  go_enter Tryz.func52,Tryz.ntmps52
  go_wp2_with fail
  refine wp_loop_rounds 1 ?_
  rw [rounds_succ]
  go_wp2_with fail
  go_ret3
  exact ⟨[],0,9,0,A,cap,.inr (.inl ⟨HN.out.1,by simp,rfl,rfl,rfl⟩),rfl,rfl,hl,Ext.refl _,fun B _ h=>h⟩
 ·obtain ⟨b,off,rfl, -⟩:=hl.get (by simp)
  exact reftake_one b off cap a s n V hcap hn hm hl
end Go.Proofs.YtphpppjfogpohaaGreat
