/- Merged by program (merge.py) out of: LedD, LedE, LedF, LedG, LedH, LedI, LedJ, LdN. -/
import Derived.Laws.Externs
import Derived.Test.YtphpppjfogpohaaGreatMv15
import Derived.Test.YtphpppjfogpohaaGreatMv4
import Derived.Test.YtphpppjfogpohaaGreatMv11
import Derived.Test.YtphpppjfogpohaaGreatMv13
import Derived.Test.YtphpppjfogpohaaGreatMv14
set_option linter.unusedSimpArgs false
set_option linter.unusedVariables false
set_option maxRecDepth 100000
set_option maxHeartbeats 16000000
namespace Go.Proofs.YtphpppjfogpohaaGreat
open Go.RowKit Go.Shelf
theorem overlaps_no {w:World} {H g:Nat} (hne:H≠g) {cs cur:Array Value} {tA tB:TypeId} (hH:w.heap[H]?=some (.cells cs tA (0,0))) (hg:w.heap[g]?=some (.cells cur tB (0,0))) (hpos:cur.size≠0) (o1 la ca o2 lb cb:Nat):
  (callFunc 199 #[.slice (some ⟨H,o1,none⟩) la ca,.slice (some ⟨g,o2,none⟩) lb cb]).run Tryz.prog w= .ok (.value (.bool false)) w:=by
 have hz:∀w,(Go.sizeOf 63).run Tryz.prog w= .ok 2 w:=fun w=>by kernel_rfl
 rw [run_callFunc_extern Tryz.func199 (by kernel_rfl) (by kernel_rfl) (by kernel_rfl) (e:=Extern.SlicesOverlaps.overlaps #[31,31] #[4]) (by kernel_rfl),
  Go.Lib.run_overlaps_apart w 31 4 63 Tryz.underlying31 2 hz ⟨H,o1,none⟩ ⟨g,o2,none⟩ la ca lb cb hne tA tB cs.size cur.size (by simp [World.shape?,hH]) (by simp [World.shape?,hg]) hpos (frozen_of_row w H o1 cs tA hH) (frozen_of_row w H _ cs tA hH)]
 rfl
theorem Own.block {α:Type} {e n:Nat} {f:α→List Value} {w:World} {B:Nat} {xs:List α} {g N cap:Nat} (h:Own e n f w B (.slice (some ⟨g,0,none⟩) N cap) xs):∃cur:Array Value,w.heap[g]?=some (.cells cur e (0,0))∧cur.size=cap*n:=by
 rcases h.2 with ⟨h',_⟩ | ⟨g',cap',cur,h',hb,hg,hnc,hcm,hcs,_⟩
 ·simp at h'
 ·simp only [Value.slice.injEq,Option.some.injEq,Addr.mk.injEq,and_true,true_and]at h'
  obtain ⟨rfl,_,rfl⟩:=h'
  exact ⟨cur,hg,hcs⟩
theorem OwnS.room_at {w:World} {B g N cap:Nat} {xs:List (Int×Int)} (h:OwnS w B (.slice (some ⟨g,0,none⟩) N cap) xs) {j:Nat} (hj:j < cap*2):(w.cell? ⟨g,j,none⟩).isSome=true∧w.frozen? ⟨g,j,none⟩=false:=by
 obtain ⟨cur,h1,h2⟩:=Own.block h
 refine ⟨?_,frozen_of_row w g j cur _ h1⟩
 have hjc:j < cur.size:=by omega
 rw [cell_of_row w g j cur _ (0,0) h1]
 simp [hjc]
theorem room_list {xs:List (Int×Int)} {x:Int×Int} {i N:Nat} (hN:xs.length=N) (hi:i < N):layL (xs.take (i+1)++xs.drop i) i [x]=xs.take i++x::xs.drop i:=by
 have h1:(xs.take (i+1)).length=i+1:=by rw [List.length_take];omega
 rw [layL_eq _ _ _ (by rw [List.length_append,h1,List.length_singleton];omega),List.take_append_of_le_length (by omega),List.take_take,List.length_singleton,List.drop_append,h1,List.drop_of_length_le (by omega),Nat.sub_self,List.drop_zero,List.nil_append,Nat.min_eq_left (by omega)]
 simp
theorem insert_room (B N cap H g i:Nat) (xs:List (Int×Int)) (x:Int×Int) (w:World) (hN:xs.length=N) (hi:i < N) (hlen:N≤400000) (hB:B≤w.heap.size) (hroom:N+1≤cap) (hO:OwnS w B (.slice (some ⟨g,0,none⟩) N cap) xs) (hR:SpansAt w (some ⟨H,0,none⟩) [x])
  (hHg:H≠g) (cs:Array Value) (tA:TypeId) (hH:w.heap[H]?=some (.cells cs tA (0,0))):
  Calls Tryz.prog 169 #[.slice (some ⟨g,0,none⟩) N cap,.int .i64 i,.slice (some ⟨H,0,none⟩) 1 1] w fun e w'=>∃A2 cap2,e= .returned (.slice A2 (N+1) cap2)∧OwnS w' B (.slice A2 (N+1) cap2) (xs.take i++x::xs.drop i)∧Below B w w':=by
 have HO:=zH hO
 have HR:=zH hR
 have hne:((i:Int)==(N:Int))=false:=by simp;omega
 have hov:∀o2 lb cb,(callFunc 199 #[.slice (some ⟨H,0,none⟩) 1 1,.slice (some ⟨g,o2,none⟩) lb cb]).run Tryz.prog w= .ok (.value (.bool false)) w:=fun o2 lb cb=>by
  obtain ⟨cur,h1,h2⟩:=Own.block hO
  exact overlaps_no hHg hH h1 (by omega) 0 1 1 o2 lb cb
 have hcm:cap≤9223372036854775807:=(Own.cap hO).2.1
 have hne2:¬(cap=i):=by omega
 have hne3:¬(cap=i+1):=by omega
 have hw1:IntKind.i64.wrap ((i:Int)+1)=(i:Int)+1:=by rw [IntKind.wrap_i64];omega
 have HG:=zH ((Own.cap hO).2.2)
 have hs0:Ext w w:=Ext.refl w
 clear hO hR
 go_enter Tryz.func169,Tryz.ntmps169
 go_wp2_with (simp only [hov])
 (refine wp_region_ord (W:=w) [(0,true),(1,true),(2,true),(3,true),(4,true),(5,true),(6,true),(7,true)] [] [8] (by kernel_rfl) (by kernel_rfl) (by intro c a d v w h;cases d <;>first | exact h | (cases h;done) | cases h.1.1 | cases h.1) (by with_reducible assumption) ?_;simp only [opsOf,List.map_cons,List.map_nil,List.getD_cons_zero,List.getD_cons_succ];(repeat (go_big_quiet_step (fail)));refine wpQuiet_nil ?_;intro w1 hx;refine mid_nil ?_)
 have hcp2:∀ty c c',(Builtin.copy_ #[31,31] ty #[.slice (some ⟨g,(i+1)*2,none⟩) (N - i) c,.slice (some ⟨g,i*2,none⟩) (N+1 - i) c']).run Tryz.prog w1= .ok (goInt (Nat.min (N+1 - i) (N - i))) (w1.setCells g ((i+1)*2) ((xs.drop i).flatMap spanC)):=fun ty c c'=>
  run_copy_span w1 ty g ((i+1)*2) (N - i) c ⟨g,i*2,none⟩ (N+1 - i) c' ((xs.drop i).flatMap spanC) (by rw [flat_len spanCells,List.length_drop,hN];simp only [Nat.min_def];split <;>omega) (row_cells spanCells (by decide) (by have:=RowAt.drop (OwnS.row (HO.out.ext hx)) i;rwa [Nat.zero_add]at this))
   (fun j hj=>(OwnS.room_at (HO.out.ext hx) (by rw [flat_len spanCells,List.length_drop]at hj;omega)).1) (fun j hj=>(OwnS.room_at (j:=(i+1)*2+j) (HO.out.ext hx) (by rw [flat_len spanCells,List.length_drop]at hj;omega)).2)
   (fun u hu=>by obtain ⟨y,_,hy⟩:=List.mem_flatMap.1 hu;exact spanCells.one y u hy)
 have hdl:i+1+(xs.drop i).length=N+1:=by rw [List.length_drop,hN];omega
 have HO2:=zH (OwnS.over (HO.out.ext hx) hN (xs.drop i) (i+1) (N+1) (by omega) hdl (by omega) hroom)
 have HB2:Hid (Below B w (w1.setCells g ((i+1)*2) ((xs.drop i).flatMap spanC))):=zH (Below.setCells (Ext.below_of hx hB) HG.out.1 _ _)
 have HR2:Hid (SpansAt (w1.setCells g ((i+1)*2) ((xs.drop i).flatMap spanC)) (some ⟨H,0,none⟩) [x]):=zH (by
  obtain ⟨b,o,h1,h2⟩:=HR.out.ext hx
  have h3:=h1 (by simp)
  simp only [Option.some.injEq,Addr.mk.injEq,and_true]at h3
  obtain ⟨rfl,rfl⟩:=h3
  refine ⟨H,0,fun _=>rfl,fun k y hy j v hv=> ?_⟩
  rw [World.cell?_setCells_out g _ _ _ _ (fun h _=>absurd h hHg)]
  exact h2 k y hy j v hv)
 have hh2:(xs.take (i+1)++xs.drop i).length=N+1:=by rw [List.length_append,List.length_take,List.length_drop];omega
 have hcp3:∀ty c,(Builtin.copy_ #[31,31] ty #[.slice (some ⟨g,i*2,none⟩) (N+1 - i) c,.slice (some ⟨H,0,none⟩) 1 1]).run Tryz.prog (w1.setCells g ((i+1)*2) ((xs.drop i).flatMap spanC))= .ok (goInt (Nat.min 1 (N+1 - i))) ((w1.setCells g ((i+1)*2) ((xs.drop i).flatMap spanC)).setCells g (i*2) ([x].flatMap spanC)):=fun ty c=>
  run_copy_span _ ty g (i*2) (N+1 - i) c ⟨H,0,none⟩ 1 1 ([x].flatMap spanC) (by rw [flat_len spanCells];simp only [List.length_singleton,Nat.min_def];split <;>omega) (row_cells spanCells (by decide) HR2.out)
   (fun j hj=>(OwnS.some_at HO2.out hh2 (by rw [flat_len spanCells]at hj;simp at hj;omega)).1) (fun j hj=>(OwnS.some_at (j:=i*2+j) HO2.out hh2 (by rw [flat_len spanCells]at hj;simp at hj;omega)).2)
   (fun u hu=>by obtain ⟨y,_,hy⟩:=List.mem_flatMap.1 hu;exact spanCells.one y u hy)
 have HO3:=zH (OwnS.lay [x] i HO2.out hh2)
 have HB3:=zH (Below.setCells HB2.out HG.out.1 ([x].flatMap spanC) (i*2))
 rw [show [x].flatMap spanC=spanC x from by simp]at HO3 HB3 hcp3
 clear hx hs0 hdl
 go_wp2_with (at_builtin;first | refine wpList_copy_run _ rfl _ _ _ _ rfl _ _ rfl (by first | rfl | (simp [Act.eval,Act.put];done)) (hcp2 _ _ _) ?_ | refine wpList_copy_run _ rfl _ _ _ _ rfl _ _ rfl (by first | rfl | (simp [Act.eval,Act.put];done)) (hcp3 _ _) ?_)
 go_ret
 have h:=HO3.out
 rw [room_list hN hi]at h
 exact ⟨_,cap,rfl,h,HB3.out⟩
theorem insert_c (B N cap H i:Nat) (z:Int) (A:Option Addr) (xs:List (Int×Int)) (x:Int×Int) (w:World) (hN:xs.length=N) (hz:z=(i:Int)) (hi:i≤N) (hlen:N≤400000) (hB:B≤w.heap.size) (hO:OwnS w B (.slice A N cap) xs) (hR:SpansAt w (some ⟨H,0,none⟩) [x])
  (hHg:∀ad,A=some ad→H≠ad.block) (cs:Array Value) (tA:TypeId) (hH:w.heap[H]?=some (.cells cs tA (0,0))):
  Calls Tryz.prog 169 #[.slice A N cap,.int .i64 z,.slice (some ⟨H,0,none⟩) 1 1] w fun e w'=>∃A2 cap2,e= .returned (.slice A2 (N+1) cap2)∧OwnS w' B (.slice A2 (N+1) cap2) (xs.take i++x::xs.drop i)∧Below B w w':=by
 subst hz
 rcases Nat.lt_or_ge i N with h | h
 ·have hA : ∃ g, A = some ⟨g, 0, none⟩ := by
   rcases hO.2 with ⟨h1,h0⟩ | ⟨g,c,cur,h1,_⟩
   ·omega
   ·injection h1 with h3 h4 h5
    exact ⟨g,h3⟩
  obtain ⟨g,rfl⟩:=hA
  rcases Nat.lt_or_ge N cap with h2 | h2
  ·exact insert_room B N cap H g i xs x w hN h hlen hB h2 hO hR (hHg _ rfl) cs tA hH
  ·obtain rfl:cap=N:=by have:=(Own.cap hO).1;omega
   exact insert_grow B cap H g i xs x w hN h hlen hB hO hR
 ·obtain rfl:i=N:=by omega
  rw [List.take_of_length_le (by omega),List.drop_of_length_le (by omega)]
  exact insert_end B i cap H A xs x w hN hlen hB hO hR
def addI (a:Int) (xs:List (Int×Int)):Nat:=(xs.findIdx? (addP a)).getD xs.length
theorem addI_le (a:Int) (xs:List (Int×Int)):addI a xs≤xs.length:=by
 unfold addI
 cases h:xs.findIdx? (addP a)with
 | none=>exact Nat.le_refl _
 | some k=>
  obtain ⟨hk,_⟩:=List.findIdx?_eq_some_iff_getElem.1 h
  exact Nat.le_of_lt hk
theorem addI_cases (a:Int) (xs:List (Int×Int)):(idxZ (addP a) xs= -1∧addI a xs=xs.length)∨(idxZ (addP a) xs=(addI a xs:Int)):=by
 unfold addI idxZ
 cases h:xs.findIdx? (addP a)with
 | none=>exact .inl ⟨rfl,rfl⟩
 | some k=>exact .inr rfl
def addL (a s:Int) (xs:List (Int×Int)):List (Int×Int):=xs.take (addI a xs)++(a,s)::xs.drop (addI a xs)
theorem addL_length (a s:Int) (xs:List (Int×Int)):(addL a s xs).length=xs.length+1:=by
 have:=addI_le a xs
 simp [addL]
 omega
def AddRes (a s:Int) (xs:List (Int×Int)) (ys:List (Int×Int)) (er:Int):Prop:=
 (mayB a s=false∧ys=xs∧er=1)∨(mayB a s=true∧xs.any (giveP a s)=true∧ys=xs∧er=16)∨(mayB a s=true∧xs.any (giveP a s)=false∧ys=addL a s xs∧er=0)
def AddOwn (a s:Int) (xs:List (Int×Int)) (V:World) (e:Ending) (w':World):Prop:=
 ∃(ys:List (Int×Int)) (er:Int) (m:Nat) (A2:Option Addr) (cap2:Nat),AddRes a s xs ys er∧m=ys.length∧e= .returned (.tuple #[.slice A2 m cap2,.int .i64 er])∧OwnS w' V.heap.size (.slice A2 m cap2) ys∧Ext V w'
theorem add_own (A:Option Addr) (cap:Nat) (xs:List (Int×Int)) (a s:Int) (V:World) (hlen:xs.length≤400000) (hl:SpansAt V A xs):
  Calls Tryz.prog 135 #[.slice A xs.length cap,.agg #[.int .i64 (a),.int .i64 (s)]] V (AddOwn a s xs V):=by
 have hV:Ext V (V.alloc (.cells #[.int .i64 a,.int .i64 s] 63)):=(Ext.refl V).alloc _
 have k0:=boxed V #[.int .i64 a,.int .i64 s] 63 0 (.int .i64 a) rfl
 have k1:=boxed V #[.int .i64 a,.int .i64 s] 63 1 (.int .i64 s) rfl
 have HL:=zH (hl.ext hV)
 clear hl
 obtain ⟨b,hm⟩:∃b,mayB a s=b:=⟨_,rfl⟩
 have HM:=zH hm
 clear hm
 go_enter Tryz.func135,Tryz.ntmps135
 go_wp2_with fail
 generalize V.alloc (.cells #[.int .i64 a,.int .i64 s] 63)=V1 at*
 refine (may_is a s b HM.out _).mono ?_
 rintro e W ⟨rfl,hx⟩
 replace k0:=fun w' (h:Ext W w')=>k0 w' (hx.trans h)
 replace k1:=fun w' (h:Ext W w')=>k1 w' (hx.trans h)
 have HX:=zH (hV.trans hx)
 have HL1:=zH (HL.out.ext hx)
 have c0:=k0 W (Ext.refl W)
 have c1:=k1 W (Ext.refl W)
 clear hx hV HL
 cases b
 ·go_wp2_with fail
  refine (clone_c A cap xs _ _ rfl (by omega) HL1.out).mono ?_
  rintro e w1 ⟨A2,cap2,rfl,ho,hx,hg⟩
  have HO:=zH ho
  have HX1:=zH (HX.out.trans hx)
  clear ho hx hg
  go_wp2_with fail
  go_ret2
  exact ⟨xs,1,_,A2,cap2,.inl ⟨HM.out,rfl,rfl⟩,rfl,rfl,HO.out.mono HX.out.size,HX1.out⟩
 ·have eg:∀args w,(callFunc 166 args).run Tryz.prog w= .ok (.enter 166 args) w:=enters_of Tryz.func166 (by kernel_rfl) rfl
  go_wp2_with fail
  refine (containsFunc_any (giveP a s) _ _ eg A cap xs W (add1_tells a s _ W c0 c1) (by omega) HL1.out).mono ?_
  rintro e W1 ⟨rfl,hx1⟩
  obtain ⟨b,hb⟩:∃b,xs.any (giveP a s)=b:=⟨_,rfl⟩
  have HB:=zH hb
  rw [hb]
  replace k0:=fun w' (h:Ext W1 w')=>k0 w' (hx1.trans h)
  replace k1:=fun w' (h:Ext W1 w')=>k1 w' (hx1.trans h)
  have HX1:=zH (HX.out.trans hx1)
  have HL2:=zH (HL1.out.ext hx1)
  clear hb eg HX HL1 c0 c1 hx1
  cases b
  ·have eg:∀args w,(callFunc 168 args).run Tryz.prog w= .ok (.enter 168 args) w:=enters_of Tryz.func168 (by kernel_rfl) rfl
   go_wp2_with fail
   refine (indexFunc_any (addP a) _ _ eg A cap xs W1 (add2_tells a _ W1 (k0 W1 (Ext.refl _))) (by omega) HL2.out).mono ?_
   rintro e W2 ⟨rfl,hx2⟩
   have HI:=zH (addI_le a xs)
   have hcs:=addI_cases a xs
   replace k0:=fun w' (h:Ext W2 w')=>k0 w' (hx2.trans h)
   replace k1:=fun w' (h:Ext W2 w')=>k1 w' (hx2.trans h)
   have HX2:=zH (HX1.out.trans hx2)
   have HL3:=zH (HL2.out.ext hx2)
   clear eg HX1 HL2 hx2
   have hs0:Ext W2 W2:=Ext.refl _
   have l0:=fun u:ExtOf W2=>k0 u.1 u.2
   have l1:=fun u:ExtOf W2=>k1 u.1 u.2
   clear k0 k1
   rcases hcs with ⟨hz,hi⟩ | hz
   all_goals
    rw [hz]
    clear hz
    go_wp2_with fail
    (refine wp_region_fork (W:=W2) [(0,true),(2,true),(3,true)] 1 [(1,[4]),(4,[1])] [5,6,7] (by kernel_rfl) (by kernel_rfl) (by intro c a d v w h;cases d <;>first | exact h | (cases h;done) | cases h.1.1 | cases h.1) (by with_reducible assumption) ?_;simp only [opsOf,List.map_cons,List.map_nil,List.getD_cons_zero,List.getD_cons_succ];(repeat (go_big_quiet_step (fail)));refine wpQuiet_nil ?_;refine all_two ?_ ?_ <;>(simp only [opsOf,List.map_cons,List.map_nil,List.getD_cons_zero,List.getD_cons_succ];intro w1 hx))
    ·(refine mid_step (by rfl) ?_;intro K hK;go_simp)
     refine (clone_c A cap xs _ w1 rfl (by omega) (HL3.out.ext hx)).mono ?_
     rintro e W3 ⟨A3,cap3,rfl,ho,hx3,hg⟩
     have hx4:Ext W3 (W3.alloc (.cells #[.int .i64 a,.int .i64 s] 63)):=(Ext.refl _).alloc _
     have HO2:=zH ((ho.mono (show V.heap.size≤_ from (HX2.out.trans hx).size)).ext hx4)
     have HR:Hid (SpansAt (W3.alloc (.cells #[.int .i64 a,.int .i64 s] 63)) (some ⟨W3.heap.size,0,none⟩) [(a,s)]):=zH (row_lit W3 _ rfl spanCells (by decide))
     have HX4:=zH (HX2.out.trans ((hx.trans hx3).trans hx4))
     have HH:=zH (heap_alloc_new W3 (.cells #[.int .i64 a,.int .i64 s] 63))
     have HBL:Hid (∀ad,A3=some ad→W3.heap.size≠ad.block):=zH (fun ad e=>by
      have:=(World.ownsRow.lt ho ad.block (by rw [e];rfl)).2
      omega)
     refine hK _ _ (hx.trans hx3) ?_
     clear hK K
     (refine mid_step (by rfl) ?_;intro K hK;go_simp)
     refine hK _ _ ((hx.trans hx3).trans hx4) ?_
     clear ho hx3 hx4 hx hg
     generalize W3.alloc (.cells #[.int .i64 a,.int .i64 s] 63)=W4 at*
     generalize W3.heap.size=H at*
     clear hK K HL3 l0 l1 hs0 HX2
     refine mid_nil ?_
     go_wp2_with fail
     refine (insert_c V.heap.size xs.length cap3 H (addI a xs) _ A3 xs (a,s) W4 rfl (by first | exact rfl | (rw [hi])) HI.out (by omega) HX4.out.size HO2.out HR.out HBL.out _ _ HH.out).mono ?_
     rintro e W6 ⟨A5,cap5,rfl,hj5,hx5⟩
     have HJ:=zH hj5
     have HX6:Hid (Ext V W6):=zH (Below.trans HX4.out hx5)
     clear hj5 hx5
     go_wp2_with fail
     go_ret2
     exact ⟨addL a s xs,0,_,A5,cap5,.inr (.inr ⟨HM.out,HB.out,rfl,rfl⟩),(addL_length a s xs).symm,rfl,HJ.out,HX6.out⟩
    ·(refine mid_step (by rfl) ?_;intro K hK;go_simp)
     have hx4:Ext w1 (w1.alloc (.cells #[.int .i64 a,.int .i64 s] 63)):=(Ext.refl _).alloc _
     have HR0:Hid (SpansAt (w1.alloc (.cells #[.int .i64 a,.int .i64 s] 63)) (some ⟨w1.heap.size,0,none⟩) [(a,s)]):=zH (row_lit w1 _ rfl spanCells (by decide))
     have hsz:(w1.alloc (.cells #[.int .i64 a,.int .i64 s] 63)).heap.size=w1.heap.size+1:=by simp
     have HH0:=zH (heap_alloc_new w1 (.cells #[.int .i64 a,.int .i64 s] 63))
     replace hx4:=hx.trans hx4
     refine hK _ _ hx4 ?_
     clear hK K
     (refine mid_step (by rfl) ?_;intro K hK;go_simp)
     refine (clone_c A cap xs _ _ rfl (by omega) (HL3.out.ext hx4)).mono ?_
     rintro e W4 ⟨A3,cap3,rfl,ho,hx3,hg⟩
     have HO2:=zH (ho.mono (show V.heap.size≤_ from (HX2.out.trans hx4).size))
     have HR:=zH (HR0.out.ext hx3)
     have HX4:=zH (HX2.out.trans (hx4.trans hx3))
     have HH:=zH ((hx3.block (k:=w1.heap.size) (by omega)).trans HH0.out)
     have HBL:Hid (∀ad,A3=some ad→w1.heap.size≠ad.block):=zH (fun ad e=>by
      have:=(World.ownsRow.lt ho ad.block (by rw [e];rfl)).1
      omega)
     refine hK _ _ (hx4.trans hx3) ?_
     clear ho hx3 hx4 hx hg HR0 HH0 hsz
     generalize w1.heap.size=H at*
     clear hK K HL3 l0 l1 hs0 HX2
     refine mid_nil ?_
     go_wp2_with fail
     refine (insert_c V.heap.size xs.length cap3 H (addI a xs) _ A3 xs (a,s) W4 rfl (by first | exact rfl | (rw [hi])) HI.out (by omega) HX4.out.size HO2.out HR.out HBL.out _ _ HH.out).mono ?_
     rintro e W6 ⟨A5,cap5,rfl,hj5,hx5⟩
     have HJ:=zH hj5
     have HX6:Hid (Ext V W6):=zH (Below.trans HX4.out hx5)
     clear hj5 hx5
     go_wp2_with fail
     go_ret2
     exact ⟨addL a s xs,0,_,A5,cap5,.inr (.inr ⟨HM.out,HB.out,rfl,rfl⟩),(addL_length a s xs).symm,rfl,HJ.out,HX6.out⟩
  ·go_wp2_with fail
   refine (clone_c A cap xs _ _ rfl (by omega) HL2.out).mono ?_
   rintro e w2 ⟨A2,cap2,rfl,ho,hx,hg⟩
   have HO:=zH ho
   have HX2:=zH (HX1.out.trans hx)
   clear ho hx hg
   go_wp2_with fail
   go_ret2
   exact ⟨xs,16,_,A2,cap2,.inr (.inl ⟨HM.out,HB.out,rfl,rfl⟩),rfl,rfl,HO.out.mono HX1.out.size,HX2.out⟩
def ledB (a s:Int) (xs:List (Int×Int)):Bool:=xs.all (fun x=>withinB x.1 x.2 a s) && chainB xs
open Classical in
noncomputable def ledR (a s:Int) (xs fs:List (Int×Int)):Bool:=ledB a s xs && decide (GapsOf a s xs fs)
theorem ledR_no {a s:Int} {xs fs:List (Int×Int)} (h:ledB a s xs=false):ledR a s xs fs=false:=by unfold ledR;rw [h];rfl
theorem ledR_of {a s:Int} {xs ys fs:List (Int×Int)} (h:ledB a s xs=true) (hg:GapsOf a s xs ys):ledR a s xs fs=decide (ys=fs):=by
 unfold ledR
 rw [h,Bool.true_and,Bool.eq_iff_iff]
 simp only [decide_eq_true_eq]
 exact ⟨fun h2=>Canon.unique hg h2,fun e=>e ▸ hg⟩
theorem led_no1 {a s:Int} {xs:List (Int×Int)} {k:Nat} (hk:k < xs.length) (h:withinB (xs.getD k (0,0)).1 (xs.getD k (0,0)).2 a s=false):ledB a s xs=false:=by
 have:xs.all (fun x=>withinB x.1 x.2 a s)=false:=by
  rw [List.all_eq_false]
  exact ⟨xs.getD k (0,0),by simp [hk],by rw [h];simp⟩
 rw [ledB,this,Bool.false_and]
theorem led_no2 {a s:Int} {xs:List (Int×Int)} {j:Nat} (hj:j+1 < xs.length) (h:(xs.getD (j+1) (0,0)).1 < (xs.getD j (0,0)).1+(xs.getD j (0,0)).2):ledB a s xs=false:=by
 rw [ledB,chain_no2 hj h,Bool.and_false]
def LedTo (a s:Int) (xs:List (Int×Int)) (k:Nat):Prop:=∀i,i < k→withinB (xs.getD i (0,0)).1 (xs.getD i (0,0)).2 a s=true∧∀j,j+1=i→(xs.getD j (0,0)).1+(xs.getD j (0,0)).2≤(xs.getD i (0,0)).1
theorem LedTo.step {a s:Int} {xs:List (Int×Int)} {k:Nat} (h:LedTo a s xs k) (h1:withinB (xs.getD k (0,0)).1 (xs.getD k (0,0)).2 a s=true) (h2:∀j,j+1=k→(xs.getD j (0,0)).1+(xs.getD j (0,0)).2≤(xs.getD k (0,0)).1):LedTo a s xs (k+1):=fun i hi=>by
 rcases Nat.lt_or_ge i k with h' | h'
 ·exact h i h'
 ·obtain rfl:i=k:=by omega
  exact ⟨h1,h2⟩
theorem led_yes {a s:Int} {xs:List (Int×Int)} (h:LedTo a s xs xs.length):ledB a s xs=true:=by
 rw [ledB,all_within fun i hi=>(h i hi).1,Bool.true_and]
 exact chain_yes fun i hi=>⟨within_may (h i hi).1,fun j _ hj=>(h i hi).2 j hj⟩
theorem ledright_any (a s:Int) (A A2:Option Addr) (cap cap2:Nat) (xs fs:List (Int×Int)) (w:World) (hlen:xs.length≤400000) (hlen2:fs.length≤9223372036854775807) (hl:SpansAt w A xs) (hl2:SpansAt w A2 fs):
  Calls Tryz.prog 174 #[.agg #[.int .i64 (a),.int .i64 (s)],.slice A xs.length cap,.slice A2 fs.length cap2] w fun e w'=>e= .returned (.bool (ledR a s xs fs))∧Ext w w':=by
 have hW:Ext w (w.alloc (.cells #[.int .i64 a,.int .i64 s] 63)):=(Ext.refl w).alloc _
 have HL:=zH (hl.ext hW)
 have HF:=zH (hl2.ext hW)
 have b0:=boxed w #[.int .i64 a,.int .i64 s] 63 0 (.int .i64 a) rfl
 have b1:=boxed w #[.int .i64 a,.int .i64 s] 63 1 (.int .i64 s) rfl
 clear hl hl2
 go_enter Tryz.func174,Tryz.ntmps174
 go_wp2_with fail
 generalize w.alloc (.cells #[.int .i64 a,.int .i64 s] 63)=W at*
 go_loopw [7,8,11] (fun _ _ i wr=>∃k:Nat,k≤xs.length∧i= .int .i64 k∧Ext W wr∧Hid (LedTo a s xs k)) (fun _ _ i _=>xs.length - (intOf i).toNat)
 case atStart=>exact ⟨0,by omega,rfl,Ext.refl _,zH (fun i hi=>absurd hi (by omega))⟩
 case round=>
  obtain ⟨k,hk,rfl,hxr,hq⟩:=hrel
  by_cases hlt:k < xs.length
  rotate_left
  ·have HR:=zH (led_yes (a:=a) (s:=s) (xs:=xs) (fun i hi=>hq.out i (by omega)))
   have c0:=b0 wr hxr
   have c1:=b1 wr hxr
   clear hq
   go_wp2_with fail
   refine (gaps_any a s A cap xs _ (by omega) (HL.out.ext hxr)).mono ?_
   rintro e W8 ⟨ys,hg,h8⟩
   obtain ⟨A8,cap8,rfl,hj8,hx8⟩:=h8.open
   have HJ:=zH hj8
   have hys:=gaps_len hg
   have HG:=zH (ledR_of (fs:=fs) HR.out hg)
   replace hxr:=hxr.trans hx8
   clear hj8 hx8 h8 c0 c1
   go_wp2_with fail
   refine (equal_any A8 A2 cap8 cap2 ys fs W8 (by omega) (by omega) HJ.out (HF.out.ext hxr)).mono ?_
   rintro e W9 ⟨rfl,hx9⟩
   replace hxr:=hxr.trans hx9
   go_wp2_with fail
   go_ret
   exact ⟨ret_bool (by rw [HG.out]),hW.trans hxr⟩
  obtain ⟨lb,off,rfl,hc⟩:=HL.out.get (by omega)
  have HC:=zH hc
  obtain ⟨e1,e2⟩:=spans_cell hc hlt
  have HN1:=zH (fun h=>led_no1 (a:=a) (s:=s) hlt h)
  have HP:=zH (fun h1 h2=>hq.out.step h1 h2)
  have ib1:(k:Int) < (xs.length:Int):=by omega
  have c1:=hxr.cell e1
  have c2:=hxr.cell e2
  clear e1 e2 hc HL HF
  rcases k with _ | m
  ·generalize xs.getD 0 (0,0)=x at*
   obtain ⟨x1,x2⟩:=x
   simp only [Nat.zero_mul,Nat.add_zero]at c1 c2
   have hz0:Ext wr (wr.alloc (.cells #[.int .i64 x1,.int .i64 x2] 63)):=(Ext.refl wr).alloc _
   have n0:=boxed wr #[.int .i64 x1,.int .i64 x2] 63 0 (.int .i64 x1) rfl
   have n1:=boxed wr #[.int .i64 x1,.int .i64 x2] 63 1 (.int .i64 x2) rfl
   clear hq HC
   cases hb:withinB x1 x2 a s
   all_goals
    go_wp2_with fail
    generalize wr.alloc (.cells #[.int .i64 x1,.int .i64 x2] 63)=Wn at*
    generalize wr.heap.size=H at*
    have l1:=fun u:ExtOf Wn=>n0 u.1 u.2
    have l2:=fun u:ExtOf Wn=>n1 u.1 u.2
    have m1:=fun u:ExtOf Wn=>b0 u.1 (hxr.trans (hz0.trans u.2))
    have m2:=fun u:ExtOf Wn=>b1 u.1 (hxr.trans (hz0.trans u.2))
    have hs0:Ext Wn Wn:=Ext.refl Wn
    (refine wp_region_ext (W:=Wn) (by kernel_rfl) (by kernel_rfl) (by with_reducible assumption) ?_;(repeat (go_big_quiet_step (first | (go_at_call 205;with_reducible exact Calls.ext_of (within_is x1 x2 a s _ hb _)))));refine wpQuiet_nil ?_;intro w1 hx)
    go_wp2_with fail
   ·go_ret
    exact ⟨ret_bool (by rw [ledR_no (HN1.out hb)]),hW.trans (hxr.trans (hz0.trans hx))⟩
   ·go_roundw
    case rel=>exact ⟨0+1,by omega,by go_num,hxr.trans (hz0.trans hx),zH (HP.out hb (by omega))⟩
    case measure=>simp [intOf];omega
  ·have hq1:=within_may (hq.out m (by omega)).1
   obtain ⟨e3,e4⟩:=spans_cell HC.out (show m < xs.length by omega)
   have c3:=hxr.cell e3
   have c4:=hxr.cell e4
   have HN2:=zH (fun h=>led_no2 (a:=a) (s:=s) (xs:=xs) (j:=m) hlt h)
   have HP2:=zH (fun h1 (h2:(xs.getD m (0,0)).1+(xs.getD m (0,0)).2≤(xs.getD (m+1) (0,0)).1)=>HP.out h1 (fun j (hj:j+1=m+1)=>(show j=m by omega) ▸ h2))
   clear e3 e4 hq HC HP
   generalize xs.getD (m+1) (0,0)=x at*
   generalize xs.getD m (0,0)=y at*
   obtain ⟨x1,x2⟩:=x
   obtain ⟨c,d⟩:=y
   simp only at c1 c2 c3 c4 hq1
   obtain ⟨q1,q2,q3,q4⟩:=may_bd hq1
   have hcast:((m+1:Nat):Int)=(m:Int)+1:=by omega
   rw [hcast]
   rw [hcast]at ib1
   clear hcast hq1
   have hp:decide ((0:Int) < (m:Int)+1)=true:=by simp;try omega
   have s1:IntKind.i64.wrap ((m:Int)+1 - 1)=(m:Int):=by rw [show (m:Int)+1 - 1=(m:Int)from by omega];exact IntWalk.i64_in _ (by omega)
   have ib2:(m:Int) < (xs.length:Int):=by omega
   have ib3:(0:Int)≤(m:Int):=by omega
   have hz0:Ext wr (wr.alloc (.cells #[.int .i64 x1,.int .i64 x2] 63)):=(Ext.refl wr).alloc _
   have n0:=boxed wr #[.int .i64 x1,.int .i64 x2] 63 0 (.int .i64 x1) rfl
   have n1:=boxed wr #[.int .i64 x1,.int .i64 x2] 63 1 (.int .i64 x2) rfl
   obtain ⟨t,ht⟩:∃t,decide (x1 < c+d)=t:=⟨_,rfl⟩
   have HT:=zH ht
   have C3:=zH c3
   have C4:=zH c4
   clear c3 c4
   cases hb:withinB x1 x2 a s
   all_goals cases t
   all_goals
    go_wp2_with fail
    generalize wr.alloc (.cells #[.int .i64 x1,.int .i64 x2] 63)=Wn at*
    generalize wr.heap.size=H at*
    have l1:=fun u:ExtOf Wn=>n0 u.1 u.2
    have l2:=fun u:ExtOf Wn=>n1 u.1 u.2
    have m1:=fun u:ExtOf Wn=>b0 u.1 (hxr.trans (hz0.trans u.2))
    have m2:=fun u:ExtOf Wn=>b1 u.1 (hxr.trans (hz0.trans u.2))
    have l3:=fun u:ExtOf Wn=>(hz0.trans u.2).cell C3.out
    have l4:=fun u:ExtOf Wn=>(hz0.trans u.2).cell C4.out
    have hs0:Ext Wn Wn:=Ext.refl Wn
    (refine wp_region_ext (W:=Wn) (by kernel_rfl) (by kernel_rfl) (by with_reducible assumption) ?_;(repeat (go_big_quiet_step (first | (go_at_call 205;with_reducible exact Calls.ext_of (within_is x1 x2 a s _ hb _)))));refine wpQuiet_nil ?_;intro w1 hx)
    go_wp2_with fail
   ·go_ret
    exact ⟨ret_bool (by rw [ledR_no (HN1.out hb)]),hW.trans (hxr.trans (hz0.trans hx))⟩
   ·go_ret
    exact ⟨ret_bool (by rw [ledR_no (HN1.out hb)]),hW.trans (hxr.trans (hz0.trans hx))⟩
   ·go_roundw
    case rel=>exact ⟨m+1+1,by omega,by go_num,hxr.trans (hz0.trans hx),zH (HP2.out hb (by have:=HT.out;simpa using this))⟩
    case measure=>simp [intOf];omega
   ·go_ret
    exact ⟨ret_bool (by rw [ledR_no (HN2.out (by have:=HT.out;simpa using this))]),hW.trans (hxr.trans (hz0.trans hx))⟩
end Go.Proofs.YtphpppjfogpohaaGreat
namespace Go.Proofs.YtphpppjfogpohaaGreat
open Go.RowKit
end Go.Proofs.YtphpppjfogpohaaGreat
