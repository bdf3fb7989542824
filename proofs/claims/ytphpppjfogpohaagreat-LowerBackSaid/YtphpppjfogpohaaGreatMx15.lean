/- Merged by program (merge.py) out of: LedB, LedC. -/
import Derived.Lib.AppendZerosOnto
import Derived.Lib.Overlaps
import Derived.Test.YtphpppjfogpohaaGreatMx14
set_option linter.unusedSimpArgs false
set_option linter.unusedVariables false
set_option maxRecDepth 100000
set_option maxHeartbeats 16000000
namespace Go.Proofs.YtphpppjfogpohaaGreat
open Go.RowKit Go.Shelf
theorem run_copy_span (w:World) (ty:TypeId) (b o dl dc:Nat) (a:Addr) (sl sc:Nat) (cs:List Value) (hn:cs.length=Nat.min sl dl*2)
  (hsrc:∀j v,cs[j]?=some v→w.cell? (a.add j)=some v) (hc:∀j,j < cs.length→(w.cell? ⟨b,o+j,none⟩).isSome=true) (hf:∀j,j < cs.length→w.frozen? ⟨b,o+j,none⟩=false) (h1:∀v∈cs,v.oneCell'=true):
  (Builtin.copy_ #[31,31] ty #[.slice (some ⟨b,o,none⟩) dl dc,.slice (some a) sl sc]).run Tryz.prog w= .ok (goInt (Nat.min sl dl)) (w.setCells b o cs):=by
 have hl:=run_loadCells_list (P:=Tryz.prog) w a cs hsrc
 have hst:=run_storeCells_cells (P:=Tryz.prog) b o cs 0 w (by simpa using hc) (by simpa using hf) h1
 obtain ⟨i,z,hi,_,hz,_,_⟩:=(spanInfo).inf
 simp only [Nat.add_zero]at hst
 simp [Builtin.copy_,run_underlying Tryz.underlying31,Builtin.lenOf,Builtin.firstCells,sizeOf,typeInfo,hi,hz,←hn,hl,hst]
theorem cells_setCells (g:Nat) (e:TypeId):∀(vs:List Value) (o:Nat) (w:World) (cur:Array Value),w.heap[g]?=some (.cells cur e (0,0))→o+vs.length≤cur.size→
  ∃cur',(w.setCells g o vs).heap[g]?=some (.cells cur' e (0,0))∧cur'.size=cur.size∧cur'.toList=cur.toList.take o++vs++cur.toList.drop (o+vs.length):=by
 intro vs
 induction vs with
 | nil=>intro o w cur h _;exact ⟨cur,h,rfl,by simp⟩
 | cons v vs ih=>
  intro o w cur h hl
  simp only [List.length_cons]at hl
  obtain ⟨cur',h1,h2,h3⟩:=ih (o+1) (w.setCell ⟨g,o,none⟩ v) (cur.setIfInBounds o v) (heap_setCell_same w g o cur e v h) (by simp;omega)
  refine ⟨cur',h1,by simpa using h2,?_⟩
  rw [h3,Array.toList_setIfInBounds]
  have e1:(cur.toList.set o v).take (o+1)=cur.toList.take o++ [v]:=by
   rw [List.take_succ_eq_append_getElem (by rw [List.length_set,Array.length_toList];omega),List.take_set_of_le (Nat.le_refl _)]
   simp
  rw [e1,List.drop_set_of_lt (by omega)]
  simp only [List.append_assoc,List.cons_append,List.nil_append,List.length_cons]
  rw [show o+1+vs.length=o+(vs.length+1)from by omega]
theorem OwnS.over {w:World} {B g N cap:Nat} {xs:List (Int×Int)} (h:OwnS w B (.slice (some ⟨g,0,none⟩) N cap) xs) (hN:xs.length=N) (ys:List (Int×Int)) (j M:Nat) (hj:j≤N) (hM:j+ys.length=M) (hNM:N≤M) (hc:M≤cap):
  OwnS (w.setCells g (j*2) (ys.flatMap spanC)) B (.slice (some ⟨g,0,none⟩) M cap) (xs.take j++ys):=by
 subst hN hM
 rcases h.2 with ⟨h',_⟩ | ⟨g',cap',cur,h',hb,hg,hnc,hcm,hcs,htk⟩
 ·simp at h'
 ·simp only [Value.slice.injEq,Option.some.injEq,Addr.mk.injEq,and_true,true_and]at h'
  obtain ⟨rfl,rfl⟩:=h'
  have hyl:=flat_len spanCells ys
  obtain ⟨cur',h1,h2,h3⟩:=cells_setCells g 63 (ys.flatMap spanC) (j*2) w cur hg (by rw [hyl,hcs];omega)
  have hml:(xs.take j++ys).length=j+ys.length:=by rw [List.length_append,List.length_take];omega
  have hmj:(xs.take j).length=j:=by rw [List.length_take];omega
  refine ⟨flat_len spanCells _,.inr ⟨g,cap,cur',by rw [hml],hb,h1,by rw [hml];omega,hcm,by rw [h2,hcs],?_⟩⟩
  rw [hml,h3,List.flatMap_append]
  have h4:cur.toList.take (j*2)=(xs.take j).flatMap spanC:=by
   have e:xs.flatMap spanC=(xs.take j).flatMap spanC++(xs.drop j).flatMap spanC:=by rw [←List.flatMap_append,List.take_append_drop]
   have e2:(xs.flatMap spanC).take (j*2)=(xs.take j).flatMap spanC:=by
    rw [e,List.take_append_of_le_length (by rw [flat_len spanCells,hmj];exact Nat.le_refl _)]
    exact List.take_of_length_le (by rw [flat_len spanCells,hmj];exact Nat.le_refl _)
   rw [←e2,←htk,List.take_take]
   congr 1
   omega
  rw [h4,List.take_append_of_le_length (by rw [List.length_append,flat_len spanCells,hyl,hmj];omega)]
  exact List.take_of_length_le (by rw [List.length_append,flat_len spanCells,hyl,hmj];omega)
theorem zeros_two (z:Value) (k:Nat):(Builtin.zeroCells #[z,z] k).toList=List.replicate (k*2) z:=by
 refine List.ext_getElem (by simp [Builtin.zeroCells]) fun i h1 h2=> ?_
 simp only [Builtin.zeroCells,Array.toList_map,Array.toList_range,List.getElem_map,List.getElem_range,List.getElem_replicate]
 rcases Nat.mod_two_eq_zero_or_one i with h | h
 ·show #[z,z][i % 2]! =z
  rw [h];rfl
 ·show #[z,z][i % 2]! =z
  rw [h];rfl
theorem zeros_flat (k:Nat):(List.replicate k ((0:Int),(0:Int))).flatMap spanC=List.replicate (k*2) (.int .i64 0):=by
 induction k with
 | zero=>rfl
 | succ k ih=>rw [List.replicate_succ,List.flatMap_cons,ih,show (k+1)*2=k*2+1+1 from by omega,List.replicate_succ,List.replicate_succ];rfl
theorem run_app_zeros {w:World} {B g N cap:Nat} {xs:List (Int×Int)} (h:OwnS w B (.slice (some ⟨g,0,none⟩) N cap) xs) (hN:xs.length=N) (i k:Nat) (hi:i≤N) (hk:0 < k) (hg:cap < i+k) (hlen:i+k≤1000000) (hB:B≤w.heap.size) (ty:TypeId):
  ∃cap2 w',(Builtin.append_ #[31,3] ty #[.slice (some ⟨g,0,none⟩) i cap,.int .i64 k]).run Tryz.prog w= .ok (.slice (some ⟨w.heap.size,0,none⟩) (i+k) cap2) w'∧
   OwnS w' B (.slice (some ⟨w.heap.size,0,none⟩) (i+k) cap2) (xs.take i++List.replicate k (0,0))∧Ext w w':=by
 obtain ⟨i0,hi0,hz0,hz1,hz2⟩:=info_parts spanInfo0
 have hml:(xs.take i).length=i:=by rw [List.length_take];omega
 have hol:=flat_len spanCells (xs.take i)
 rw [hml]at hol
 have hold:(Builtin.firstCells i0.size i (.slice (some ⟨g,0,none⟩) i cap)).run Tryz.prog w.drew= .ok ((xs.take i).flatMap spanC).toArray w.drew:=by
  rw [hz1]
  exact run_firstCells_some w.drew 2 i ⟨g,0,none⟩ i cap _ hol (row_cells spanCells (by decide) (RowAt.ext (RowAt.take (OwnS.row h) i) (Ext.drew (Ext.refl w))))
 have hrun:=Go.Lib.run_append_grow_zeros (P:=Tryz.prog) w 31 3 ty 63 i0 _ .i64 .i64 Tryz.underlying31 Tryz.underlying3 hi0 hz0 (some ⟨g,0,none⟩) i cap _ hold k hk (by omega) hg (by omega) (by rw [hz2];omega) (by rw [hz2];exact growslice_fits hg (by omega))
 refine ⟨_,_,hrun,?_,(Ext.drew (Ext.refl w)).alloc _⟩
 have hgc:=grownCap_ge w (i+k) cap 63
 have hgm:=grownCap_le_maxLen w (i+k) cap 63 (by simp [maxLen];omega)
 have hl2:(xs.take i++List.replicate k ((0:Int),(0:Int))).length=i+k:=by rw [List.length_append,hml,List.length_replicate]
 refine ⟨flat_len spanCells _,.inr ⟨w.heap.size,_,_,by rw [hl2],hB,by have:=heap_alloc_new w.drew (Obj.cells (((xs.take i).flatMap spanC).toArray++Builtin.zeroCells (Value.agg #[.int .i64 0,.int .i64 0]).cells k++Builtin.zeroCells (Value.agg #[.int .i64 0,.int .i64 0]).cells (grownCap w (i+k) cap 63 - (i+k))) 63 (0,0));exact this,by rw [hl2];exact hgc,hgm,?_,?_⟩⟩
 ·have hc2:(Value.agg #[.int .i64 0,.int .i64 0]).cells.size=2:=rfl
  simp only [Array.size_append,size_zeroCells,List.size_toArray,hol,hc2]
  omega
 ·have hc:(Value.agg #[.int .i64 0,.int .i64 0]).cells= #[.int .i64 0,.int .i64 0]:=rfl
  rw [hl2,hc]
  simp only [Array.toList_append,zeros_two,List.flatMap_append,zeros_flat]
  rw [List.take_append_of_le_length (by rw [List.length_append,hol,List.length_replicate];omega),List.take_of_length_le (by rw [List.length_append,hol,List.length_replicate];omega)]
theorem insert_end (B N cap H:Nat) (A:Option Addr) (xs:List (Int×Int)) (x:Int×Int) (w:World) (hN:xs.length=N) (hlen:N≤400000) (hB:B≤w.heap.size) (hO:OwnS w B (.slice A N cap) xs) (hR:SpansAt w (some ⟨H,0,none⟩) [x]):
  Calls Tryz.prog 169 #[.slice A N cap,.int .i64 N,.slice (some ⟨H,0,none⟩) 1 1] w fun e w'=>∃A2 cap2,e= .returned (.slice A2 (N+1) cap2)∧OwnS w' B (.slice A2 (N+1) cap2) (xs++ [x])∧Below B w w':=by
 have HO:=zH hO
 have HR:=zH hR
 have hA:(A=none∧N=0∧cap=0)∨∃g,A=some ⟨g,0,none⟩∧(N=cap∨cap≠N)∧N≤cap∧cap≤9223372036854775807:=by
  rcases hO.2 with ⟨h,h0⟩ | ⟨g,c,cur,h,_,_,h1,h2,_⟩
  ·injection h with h1 h2 h3
   exact .inl ⟨h1,h2,h3⟩
  ·injection h with h3 h4 h5
   exact .inr ⟨g,h3,by omega,by omega,by unfold maxLen at h2;omega⟩
 clear hO hR
 rcases hA with ⟨rfl,rfl,rfl⟩ | ⟨g,rfl,rfl | hne,hc1,hc2⟩
 ·go_enter Tryz.func169,Tryz.ntmps169
  go_wp2_with (at_builtin;refine wpList_app rfl (.tmp 23) (.tmp 24) 31 rfl spanInfo spanCells rfl (by exact HO.out) [x] ⟨H,0,none⟩ 1 1 1 (by rw [hN];rfl) rfl rfl (by exact HR.out) (by omega) (by simp [maxLen]) (by exact hB) ?_;intro A4 cap4 W5 hown4 hgr4 hat4;have HO4:=zH hown4;have HX5:Hid (Below B w W5):=zH (HO.out.below (Below.refl _ _) hgr4 hB);clear hown4 hgr4 hat4)
  go_ret
  exact ⟨A4,cap4,rfl,HO4.out,HX5.out⟩
 all_goals
  go_enter Tryz.func169,Tryz.ntmps169
  go_wp2_with (at_builtin;refine wpList_app rfl (.tmp 23) (.tmp 24) 31 rfl spanInfo spanCells rfl (by exact HO.out) [x] ⟨H,0,none⟩ 1 (N+1) 1 (by rw [hN];rfl) rfl rfl (by exact HR.out) (by omega) (by simp [maxLen];omega) (by exact hB) ?_;intro A4 cap4 W5 hown4 hgr4 hat4;have HO4:=zH hown4;have HX5:Hid (Below B w W5):=zH (HO.out.below (Below.refl _ _) hgr4 hB);clear hown4 hgr4 hat4)
  go_ret
  exact ⟨A4,cap4,rfl,HO4.out,HX5.out⟩
theorem wpList_copy_run {P:Program} (w:World) {ops:Array Oper} {rest:List Oper} {o:Oper} {a:Act} {Q:Exit→Act→World→Prop} (hgd:o.guard=none) (d s:Operand) (t t':TypeId)
  (ho:o.op= .call {callee:= .builtin .copy,args:= #[d,s],argTypes:= #[t,t']}) (v u:Value) (hd:a.eval d=v) (hs:a.eval s=u) {v':Value} {w':World}
  (hr:(Builtin.copy_ #[t,t'] o.type #[v,u]).run P w= .ok v' w') (h:wpList P ops Q rest (a.put o.dst v') w'):wpList P ops Q (o::rest) a w:=
 wpList_plain hgd fun K hK=>by
  unfold Oper.wp execOp
  simp only [ho,resolve,invoke,builtin,Sem.run_bind,Sem.run_pure,Result.andThen_ok,List.map_toArray,List.map_cons,List.map_nil,hd,hs,hr]
  exact hK _ _ h
theorem ins_list {xs:List (Int×Int)} {x:Int×Int} {i N:Nat} (hN:xs.length=N) (hi:i < N):layL (layL (xs.take i++List.replicate (N+1 - i) (0,0)) i [x]) (i+1) (xs.drop i)=xs.take i++x::xs.drop i:=by
 have hml:(xs.take i).length=i:=by rw [List.length_take];omega
 have hdl:(xs.drop i).length=N - i:=by rw [List.length_drop,hN]
 have h0:(xs.take i++List.replicate (N+1 - i) ((0:Int),(0:Int))).length=N+1:=by rw [List.length_append,hml,List.length_replicate];omega
 have h1:layL (xs.take i++List.replicate (N+1 - i) (0,0)) i [x]=xs.take i++x::List.replicate (N - i) (0,0):=by
  rw [layL_eq _ _ _ (by rw [h0];simp;omega),List.take_append_of_le_length (by omega),List.take_of_length_le (by omega),List.drop_append,hml]
  rw [List.drop_of_length_le (by rw [hml];simp),List.nil_append,List.drop_replicate,List.append_assoc]
  simp only [List.length_singleton,List.cons_append,List.nil_append]
  congr 3
  omega
 rw [h1,layL_eq _ _ _ (by rw [List.length_append,hml,List.length_cons,List.length_replicate,hdl];omega),hdl]
 have h2:(xs.take i++x::List.replicate (N - i) ((0:Int),(0:Int))).take (i+1)=xs.take i++ [x]:=by
  rw [show xs.take i++x::List.replicate (N - i) ((0:Int),(0:Int))=(xs.take i++ [x])++List.replicate (N - i) (0,0)from by simp]
  rw [List.take_append_of_le_length (by rw [List.length_append,hml];simp)]
  exact List.take_of_length_le (by rw [List.length_append,hml];simp)
 have h3:(xs.take i++x::List.replicate (N - i) ((0:Int),(0:Int))).drop (i+1+(N - i))= []:=List.drop_of_length_le (by rw [List.length_append,hml,List.length_cons,List.length_replicate];omega)
 rw [h2,h3]
 simp
theorem insert_grow (B N H g i:Nat) (xs:List (Int×Int)) (x:Int×Int) (w:World) (hN:xs.length=N) (hi:i < N) (hlen:N≤400000) (hB:B≤w.heap.size) (hO:OwnS w B (.slice (some ⟨g,0,none⟩) N N) xs) (hR:SpansAt w (some ⟨H,0,none⟩) [x]):
  Calls Tryz.prog 169 #[.slice (some ⟨g,0,none⟩) N N,.int .i64 i,.slice (some ⟨H,0,none⟩) 1 1] w fun e w'=>∃A2 cap2,e= .returned (.slice A2 (N+1) cap2)∧OwnS w' B (.slice A2 (N+1) cap2) (xs.take i++x::xs.drop i)∧Below B w w':=by
 have HO:=zH hO
 have HR:=zH hR
 have hne:((i:Int)==(N:Int))=false:=by simp;omega
 have hz : ∀ w1 : World, Ext w w1 → ∃ cap2 w', (∀ ty, (Builtin.append_ #[31, 3] ty #[.slice (some ⟨g, 0, none⟩) i N, .int .i64 ((N : Int) + 1 - (i : Int))]).run Tryz.prog w1 = .ok (.slice (some ⟨w1.heap.size, 0, none⟩) (N + 1) cap2) w') ∧
   OwnS w' B (.slice (some ⟨w1.heap.size,0,none⟩) (N+1) cap2) (xs.take i++List.replicate (N+1 - i) (0,0))∧Ext w1 w':=by
  intro w1 hx
  obtain ⟨cap2,w',h1,h2,h3⟩:=run_app_zeros (hO.ext hx) hN i (N+1 - i) (by omega) (by omega) (by omega) (by omega) (Nat.le_trans hB hx.size) 31
  have e1:((N+1 - i:Nat):Int)=(N:Int)+1 - (i:Int):=by omega
  have e2:i+(N+1 - i)=N+1:=by omega
  rw [e1,e2]at h1
  rw [e2]at h2
  exact ⟨cap2,w',fun ty=>h1,h2,h3⟩
 obtain ⟨cap2,W1,hrun,hO1,hx1⟩:=hz w (Ext.refl w)
 have hcap:=(Own.cap hO1).1
 have hcap1:=(Own.cap hO1).2.1
 have hcm:cap2≤9223372036854775807:=hcap1
 have HO1:=zH hO1
 have HX1:=zH hx1
 have HR1:=zH (hR.ext hx1)
 have HG:=zH ((Own.cap hO).2.2)
 have hh1:(xs.take i++List.replicate (N+1 - i) ((0:Int),(0:Int))).length=N+1:=by rw [List.length_append,List.length_take,List.length_replicate];omega
 have hcp1:∀ty c,(Builtin.copy_ #[31,31] ty #[.slice (some ⟨w.heap.size,i*2,none⟩) (N+1 - i) c,.slice (some ⟨H,0,none⟩) 1 1]).run Tryz.prog W1= .ok (goInt (Nat.min 1 (N+1 - i))) (W1.setCells w.heap.size (i*2) ([x].flatMap spanC)):=fun ty c=>
  run_copy_span W1 ty w.heap.size (i*2) (N+1 - i) c ⟨H,0,none⟩ 1 1 ([x].flatMap spanC) (by rw [flat_len spanCells];simp only [List.length_singleton,Nat.min_def];split <;>omega) (row_cells spanCells (by decide) HR1.out)
   (fun j hj=>(OwnS.some_at HO1.out hh1 (by rw [flat_len spanCells]at hj;simp at hj;omega)).1) (fun j hj=>(OwnS.some_at (j:=i*2+j) HO1.out hh1 (by rw [flat_len spanCells]at hj;simp at hj;omega)).2)
   (fun u hu=>by obtain ⟨y,_,hy⟩:=List.mem_flatMap.1 hu;exact spanCells.one y u hy)
 have HO2:=zH (OwnS.lay [x] i HO1.out hh1)
 have HB2:Hid (Below w.heap.size w (W1.setCells w.heap.size (i*2) ([x].flatMap spanC))):=zH (Below.setCells (show Below w.heap.size w W1 from hx1) (Nat.le_refl _) _ _)
 have hne2:¬(cap2=i):=by omega
 have hne3:¬(cap2=i+1):=by omega
 have hw1:IntKind.i64.wrap ((i:Int)+1)=(i:Int)+1:=by rw [IntKind.wrap_i64];omega
 clear hz hO hR hO1 hx1 hcap1 hh1
 go_enter Tryz.func169,Tryz.ntmps169
 go_wp2_with (at_builtin;first | refine Go.Lib.wpList_append_run _ rfl _ _ _ _ rfl _ _ rfl rfl _ _ (hrun _) ?_ | refine wpList_copy_run _ rfl _ _ _ _ rfl _ _ rfl rfl (hcp1 _ _) ?_)
 have hfx: [x].flatMap spanC=spanC x:=by simp
 rw [hfx]at HO2 HB2
 clear hfx
 have hh2:(layL (xs.take i++List.replicate (N+1 - i) ((0:Int),(0:Int))) i [x]).length=N+1:=by rw [layL_length,List.length_append,List.length_take,List.length_replicate];omega
 have HX2:Hid (Ext w (W1.setCells w.heap.size (i*2) (spanC x))):=zH HB2.out
 clear hcp1 HR1 HX1 HO1 hrun
 generalize W1.setCells w.heap.size (i*2) (spanC x)=W2 at*
 have hs0:Ext W2 W2:=Ext.refl W2
 (refine wp_region_ord (W:=W2) [(0,true),(1,true),(2,true),(3,true),(4,true),(5,true),(6,true),(7,true)] [] [8] (by kernel_rfl) (by kernel_rfl) (by intro c a d v w h;cases d <;>first | exact h | (cases h;done) | cases h.1.1 | cases h.1) (by with_reducible assumption) ?_;simp only [opsOf,List.map_cons,List.map_nil,List.getD_cons_zero,List.getD_cons_succ];(repeat (go_big_quiet_step (fail)));refine wpQuiet_nil ?_;intro w1 hx;refine mid_nil ?_)
 have hx8:=HX2.out.trans hx
 have hcp2:∀ty c c',(Builtin.copy_ #[31,31] ty #[.slice (some ⟨w.heap.size,(i+1)*2,none⟩) (N - i) c,.slice (some ⟨g,i*2,none⟩) (N - i) c']).run Tryz.prog w1= .ok (goInt (Nat.min (N - i) (N - i))) (w1.setCells w.heap.size ((i+1)*2) ((xs.drop i).flatMap spanC)):=fun ty c c'=>
  run_copy_span w1 ty w.heap.size ((i+1)*2) (N - i) c ⟨g,i*2,none⟩ (N - i) c' ((xs.drop i).flatMap spanC) (by rw [flat_len spanCells,List.length_drop,hN];simp only [Nat.min_def];split <;>omega) (row_cells spanCells (by decide) (by have:=RowAt.drop (OwnS.row (HO.out.ext hx8)) i;rwa [Nat.zero_add]at this))
   (fun j hj=>(OwnS.some_at (HO2.out.ext hx) hh2 (by rw [flat_len spanCells,List.length_drop]at hj;omega)).1) (fun j hj=>(OwnS.some_at (j:=(i+1)*2+j) (HO2.out.ext hx) hh2 (by rw [flat_len spanCells,List.length_drop]at hj;omega)).2)
   (fun u hu=>by obtain ⟨y,_,hy⟩:=List.mem_flatMap.1 hu;exact spanCells.one y u hy)
 have HO3:=zH (OwnS.lay (xs.drop i) (i+1) (HO2.out.ext hx) hh2)
 have HB3:Hid (Below w.heap.size w (w1.setCells w.heap.size ((i+1)*2) ((xs.drop i).flatMap spanC))):=zH (Below.setCells (show Below w.heap.size w w1 from hx8) (Nat.le_refl _) _ _)
 clear HB2 HX2 hx8 hx hs0
 go_wp2_with (at_builtin;refine wpList_copy_run _ rfl _ _ _ _ rfl _ _ rfl (by first | rfl | (simp [Act.eval,Act.put];done)) (hcp2 _ _ _) ?_)
 go_ret
 have h:=HO3.out
 rw [ins_list hN hi]at h
 exact ⟨_,cap2,rfl,h,Below.mono HB3.out hB⟩
end Go.Proofs.YtphpppjfogpohaaGreat
