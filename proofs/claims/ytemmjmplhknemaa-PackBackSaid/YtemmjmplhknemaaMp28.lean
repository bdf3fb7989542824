/- Merged by program (merge.py) out of: StT, StU, StVa. -/
import Derived.Test.YtemmjmplhknemaaMp19
import Derived.Test.YtemmjmplhknemaaMp11
import Derived.Test.YtemmjmplhknemaaMp15
import Derived.Test.YtemmjmplhknemaaMp17
import Derived.Test.YtemmjmplhknemaaMp1
import Derived.Test.YtemmjmplhknemaaMp4
import Derived.Test.YtemmjmplhknemaaMp9
set_option linter.unusedSimpArgs false
set_option linter.unusedVariables false
set_option maxRecDepth 100000
set_option maxHeartbeats 16000000
namespace Go.Proofs.Ytemmjmplhknemaa
open Go.RowKit Go.Shelf
def newFr (c0 c1 c2 c3:Int):List (Int×Int):=if largeS c0 c1 c2 c3=0 then []else [(largeA c0 c1 c2 c3,largeS c0 c1 c2 c3)]
def newS (c0 c1 c2 c3:Int):StD:=if cfgB c0 c1 c2 c3 then ⟨c0,c1,c2,c3,false,none,List.replicate (wordsZ c0 c1 c2 c3).toNat 0,0,0,none,[],0,none,newFr c0 c1 c2 c3,0,none,List.replicate c2.toNat (false,0,0),0⟩
 else ⟨0,0,0,0,false,none,[],0,0,none,[],0,none,[],0,none,[],0⟩
def newE (c0 c1 c2 c3:Int):Int:=if cfgB c0 c1 c2 c3 then 0 else 1
theorem ext10x {V w:World} (h:Ext V w) {X:Nat} (hX:V.heap.size≤X) (u0 u1 u2 u3 u4 u5 u6 u7 u8 u9:Value):Ext V ((((((((((w.setCell ⟨X,0,none⟩ u0).setCell ⟨X,1,none⟩ u1).setCell ⟨X,2,none⟩ u2).setCell ⟨X,3,none⟩ u3).setCell ⟨X,4,none⟩ u4).setCell ⟨X,5,none⟩ u5).setCell ⟨X,6,none⟩ u6).setCell ⟨X,7,none⟩ u7).setCell ⟨X,8,none⟩ u8).setCell ⟨X,9,none⟩ u9):=
 (((((((((h.setCell hX _).setCell hX _).setCell hX _).setCell hX _).setCell hX _).setCell hX _).setCell hX _).setCell hX _).setCell hX _).setCell hX _
theorem ext_uS {W w:World} (h:Ext W w):∃u:ExtOf W,w=u.1:=⟨⟨w,h⟩,rfl⟩
theorem own10 {α:Type} {e:TypeId} {n:Nat} {f:α→List Value} {B:Nat} {v:Value} {xs:List α} {w:World} (h:Own e n f w B v xs) {X:Nat} {cs:Array Value} {t:TypeId} {r:Nat×Nat} (hb:w.heap[X]?=some (.cells cs t r)) (hne:t≠e) (u0 u1 u2 u3 u4 u5 u6 u7 u8 u9:Value):
  Own e n f ((((((((((w.setCell ⟨X,0,none⟩ u0).setCell ⟨X,1,none⟩ u1).setCell ⟨X,2,none⟩ u2).setCell ⟨X,3,none⟩ u3).setCell ⟨X,4,none⟩ u4).setCell ⟨X,5,none⟩ u5).setCell ⟨X,6,none⟩ u6).setCell ⟨X,7,none⟩ u7).setCell ⟨X,8,none⟩ u8).setCell ⟨X,9,none⟩ u9) B v xs:=by
 have n1:=(h.ne_block hb hne).symm
 repeat (first | with_reducible exact h | with_reducible refine Own.setNe ?_ n1)
theorem blk10 {w:World} {X:Nat} {v0 v1 v2 v3 v4 v5 v6 v7 v8 v9:Value} {t:TypeId} (hb:w.heap[X]?=some (.cells #[v0,v1,v2,v3,v4,v5,v6,v7,v8,v9] t (0,0))) (u0 u1 u2 u3 u4 u5 u6 u7 u8 u9:Value):
  ((((((((((w.setCell ⟨X,0,none⟩ u0).setCell ⟨X,1,none⟩ u1).setCell ⟨X,2,none⟩ u2).setCell ⟨X,3,none⟩ u3).setCell ⟨X,4,none⟩ u4).setCell ⟨X,5,none⟩ u5).setCell ⟨X,6,none⟩ u6).setCell ⟨X,7,none⟩ u7).setCell ⟨X,8,none⟩ u8).setCell ⟨X,9,none⟩ u9).heap[X]?=some (.cells #[u0,u1,u2,u3,u4,u5,u6,u7,u8,u9] t (0,0)):=by
 have h0:(w.setCell ⟨X,0,none⟩ u0).heap[X]?=some (.cells #[u0,v1,v2,v3,v4,v5,v6,v7,v8,v9] t (0,0)):=blk_set hb u0
 have h1:((w.setCell ⟨X,0,none⟩ u0).setCell ⟨X,1,none⟩ u1).heap[X]?=some (.cells #[u0,u1,v2,v3,v4,v5,v6,v7,v8,v9] t (0,0)):=blk_set h0 u1
 have h2:(((w.setCell ⟨X,0,none⟩ u0).setCell ⟨X,1,none⟩ u1).setCell ⟨X,2,none⟩ u2).heap[X]?=some (.cells #[u0,u1,u2,v3,v4,v5,v6,v7,v8,v9] t (0,0)):=blk_set h1 u2
 have h3:((((w.setCell ⟨X,0,none⟩ u0).setCell ⟨X,1,none⟩ u1).setCell ⟨X,2,none⟩ u2).setCell ⟨X,3,none⟩ u3).heap[X]?=some (.cells #[u0,u1,u2,u3,v4,v5,v6,v7,v8,v9] t (0,0)):=blk_set h2 u3
 have h4:(((((w.setCell ⟨X,0,none⟩ u0).setCell ⟨X,1,none⟩ u1).setCell ⟨X,2,none⟩ u2).setCell ⟨X,3,none⟩ u3).setCell ⟨X,4,none⟩ u4).heap[X]?=some (.cells #[u0,u1,u2,u3,u4,v5,v6,v7,v8,v9] t (0,0)):=blk_set h3 u4
 have h5:((((((w.setCell ⟨X,0,none⟩ u0).setCell ⟨X,1,none⟩ u1).setCell ⟨X,2,none⟩ u2).setCell ⟨X,3,none⟩ u3).setCell ⟨X,4,none⟩ u4).setCell ⟨X,5,none⟩ u5).heap[X]?=some (.cells #[u0,u1,u2,u3,u4,u5,v6,v7,v8,v9] t (0,0)):=blk_set h4 u5
 have h6:(((((((w.setCell ⟨X,0,none⟩ u0).setCell ⟨X,1,none⟩ u1).setCell ⟨X,2,none⟩ u2).setCell ⟨X,3,none⟩ u3).setCell ⟨X,4,none⟩ u4).setCell ⟨X,5,none⟩ u5).setCell ⟨X,6,none⟩ u6).heap[X]?=some (.cells #[u0,u1,u2,u3,u4,u5,u6,v7,v8,v9] t (0,0)):=blk_set h5 u6
 have h7:((((((((w.setCell ⟨X,0,none⟩ u0).setCell ⟨X,1,none⟩ u1).setCell ⟨X,2,none⟩ u2).setCell ⟨X,3,none⟩ u3).setCell ⟨X,4,none⟩ u4).setCell ⟨X,5,none⟩ u5).setCell ⟨X,6,none⟩ u6).setCell ⟨X,7,none⟩ u7).heap[X]?=some (.cells #[u0,u1,u2,u3,u4,u5,u6,u7,v8,v9] t (0,0)):=blk_set h6 u7
 have h8:(((((((((w.setCell ⟨X,0,none⟩ u0).setCell ⟨X,1,none⟩ u1).setCell ⟨X,2,none⟩ u2).setCell ⟨X,3,none⟩ u3).setCell ⟨X,4,none⟩ u4).setCell ⟨X,5,none⟩ u5).setCell ⟨X,6,none⟩ u6).setCell ⟨X,7,none⟩ u7).setCell ⟨X,8,none⟩ u8).heap[X]?=some (.cells #[u0,u1,u2,u3,u4,u5,u6,u7,u8,v9] t (0,0)):=blk_set h7 u8
 have h9:((((((((((w.setCell ⟨X,0,none⟩ u0).setCell ⟨X,1,none⟩ u1).setCell ⟨X,2,none⟩ u2).setCell ⟨X,3,none⟩ u3).setCell ⟨X,4,none⟩ u4).setCell ⟨X,5,none⟩ u5).setCell ⟨X,6,none⟩ u6).setCell ⟨X,7,none⟩ u7).setCell ⟨X,8,none⟩ u8).setCell ⟨X,9,none⟩ u9).heap[X]?=some (.cells #[u0,u1,u2,u3,u4,u5,u6,u7,u8,u9] t (0,0)):=blk_set h8 u9
 exact h9
theorem wp_makeU {o:Oper} {a:Act} {w:World} {K:Act→World→Prop} {Q:Exit→Act→World→Prop} (l:Operand) (hop:o.op=Op.makeSlice 24 l l) (n:Nat) (hl:a.eval l= .int .i64 (n:Int)) (hn:n≤17592186044416)
  (hK:∀w',Own 54 1 u64C w' w.heap.size (.slice (some ⟨w.heap.size,0,none⟩) n n) (List.replicate n (0:Int))→Ext w w'→K (a.put o.dst (.slice (some ⟨w.heap.size,0,none⟩) n n)) w'):o.wp Try.prog a w K Q:=by
 obtain ⟨i,hi,hz0,hz1,hz2⟩:=info_parts u64Info0
 obtain ⟨w',hrun,r1,r2⟩:=run_make_full (P:=Try.prog) w w.heap.size 24 54 i (.int .u64 0) 1 Try.underlying24 hi hz0 hz1 .i64 .i64 n (by rw [hz2];omega) (by unfold maxLen;omega) (Nat.le_refl _)
 have hown:Own 54 1 u64C w' w.heap.size (.slice (some ⟨w.heap.size,0,none⟩) n n) (List.replicate n (0:Int)):=by
  unfold Own
  have e:(List.replicate n (0:Int)).flatMap u64C=(madeCells (Value.int .u64 0).cells (n*1)).toList:=by
   rw [Nat.mul_one,show (Value.int .u64 0).cells= #[Value.int .u64 0]from rfl,toList_madeCells_one]
   clear r1 r2 hl hn hK hrun
   induction n with
   | zero=>rfl
   | succ n ih=>rw [List.replicate_succ,List.flatMap_cons,ih];rfl
  rw [e,List.length_replicate]
  exact r1
 unfold Oper.wp
 simp [execOp,hop,hl,hrun,Result.andThen]
 exact hK _ hown ⟨r2.os,r2.tape,r2.output,r2.size,fun k hk=>r2.block k hk (by simp)⟩
def RetNew (V:World) (s:StD) (er:Int) (e:Ending) (w':World):Prop:=∃t:StD,e= .returned (.tuple #[.agg #[.int .i64 t.c0,.int .i64 t.c1,.int .i64 t.c2,.int .i64 t.c3,.bool t.snd,.slice t.wA t.ws.length t.wc,.int .i64 t.top,.slice t.tA t.tb.length t.tc,.slice t.fA t.fr.length t.fc,.slice t.sA t.sl.length t.sc],.int .i64 er])∧StOwn V.heap.size w' t∧eqvS t s=true∧Ext V w'
theorem stnew_no (c0 c1 c2 c3:Int) (hb:cfgB c0 c1 c2 c3=false) (V:World):Calls Try.prog 10 #[.agg #[.int .i64 (c0),.int .i64 (c1),.int .i64 (c2),.int .i64 (c3)]] V (RetNew V (newS c0 c1 c2 c3) (newE c0 c1 c2 c3)):=by
 have hS:=pers_new2 V #[.int .i64 c0,.int .i64 c1,.int .i64 c2,.int .i64 c3] 23 _ rfl (.cells #[.int .i64 0,.int .i64 0,.int .i64 0,.int .i64 0,.bool false,.slice none 0 0,.int .i64 0,.slice none 0 0,.slice none 0 0,.slice none 0 0] 28)
 have hR:=pers_new (V.alloc (.cells #[.int .i64 c0,.int .i64 c1,.int .i64 c2,.int .i64 c3] 23)) #[.int .i64 0,.int .i64 0,.int .i64 0,.int .i64 0,.bool false,.slice none 0 0,.int .i64 0,.slice none 0 0,.slice none 0 0,.slice none 0 0] 28 (V.heap.size+1) (by simp)
 have HX:=zH (((Ext.refl V).alloc (.cells #[.int .i64 c0,.int .i64 c1,.int .i64 c2,.int .i64 c3] 23)).alloc (.cells #[.int .i64 0,.int .i64 0,.int .i64 0,.int .i64 0,.bool false,.slice none 0 0,.int .i64 0,.slice none 0 0,.slice none 0 0,.slice none 0 0] 28))
 have HVR:Hid (V.heap.size≤V.heap.size+1):=zH (by omega)
 have HB:=zH hb
 have HN:Hid (newS c0 c1 c2 c3=⟨0,0,0,0,false,none,[],0,0,none,[],0,none,[],0,none,[],0⟩∧newE c0 c1 c2 c3=1):=zH (by simp [newS,newE,hb])
 clear hb
 go_enter Try.func10,Try.ntmps10
 go_wp2_with fail
 generalize (V.alloc (.cells #[.int .i64 c0,.int .i64 c1,.int .i64 c2,.int .i64 c3] 23)).alloc (.cells #[.int .i64 0,.int .i64 0,.int .i64 0,.int .i64 0,.bool false,.slice none 0 0,.int .i64 0,.slice none 0 0,.slice none 0 0,.slice none 0 0] 28)=W at*
 generalize V.heap.size+1=R at*
 have gS:=hS.cells
 have gR:=hR.cells
 have fR:=hR.frees
 have lR:=hR.lt
 ((first | refine at_baseC (W:=W) ?_ | refine at_base (W:=W) ?_);intro uq;(try go_wp2_with fail))
 (refine (check_is HB.out _).mono ?_;rintro e wq ⟨rfl,hx⟩;replace hx:=Ext.trans (a:=W) zE hx;obtain ⟨uq,rfl⟩:∃u:ExtOf W,wq=u.1:=⟨⟨wq,hx⟩,rfl⟩;clear hx;go_wp2_with fail)
 ((try simp only [Exit.inBlock,Exit.then]);refine bodyPost_ret (v:= .tuple #[.agg #[.int .i64 0,.int .i64 0,.int .i64 0,.int .i64 0,.bool false,.slice none 0 0,.int .i64 0,.slice none 0 0,.slice none 0 0,.slice none 0 0],.int .i64 1]) (by simp only [results,Try.results10];go_simp) rfl ?_)
 refine ⟨⟨0,0,0,0,false,none,[],0,0,none,[],0,none,[],0,none,[],0⟩,by rw [HN.out.2];rfl,⟨Own.nil _ _ _ _ _,Own.nil _ _ _ _ _,Own.nil _ _ _ _ _,Own.nil _ _ _ _ _⟩,by rw [HN.out.1];rfl,ext10x (HX.out.trans uq.2) HVR.out _ _ _ _ _ _ _ _ _ _⟩
theorem may_large {c0 c1 c2 c3:Int} (hb:cfgB c0 c1 c2 c3=true):mayB (largeA c0 c1 c2 c3) (largeS c0 c1 c2 c3)=decide (largeS c0 c1 c2 c3≠0):=by
 obtain ⟨h1,h2,h3,h4,h5,h6,h7,h8⟩:=cfg_bd hb
 simp only [largeA,largeS,hb,if_true]
 by_cases h:c1=0
 ·subst h;simp [mayB]
 ·rw [if_neg h];simp [mayB,h];omega
theorem stnew_yes (c0 c1 c2 c3:Int) (hb:cfgB c0 c1 c2 c3=true) (V:World):Calls Try.prog 10 #[.agg #[.int .i64 (c0),.int .i64 (c1),.int .i64 (c2),.int .i64 (c3)]] V (RetNew V (newS c0 c1 c2 c3) (newE c0 c1 c2 c3)):=by
 obtain ⟨h1,h2,h3,h4,h5,h6,h7,h8⟩:=cfg_bd hb
 obtain ⟨m,rfl⟩:=Int.eq_ofNat_of_zero_le (show 0≤c2 by omega)
 obtain ⟨n,hn⟩:∃n:Nat,wordsZ c0 c1 m c3=n:=⟨(2*c0+c1).toNat,by simp only [wordsZ,hb,if_true];omega⟩
 have HNB:Hid (n≤98304):=zH (by simp only [wordsZ,hb,if_true]at hn;omega)
 have HNW:Hid (newS c0 c1 m c3=⟨c0,c1,m,c3,false,none,List.replicate n 0,0,0,none,[],0,none,newFr c0 c1 m c3,0,none,List.replicate m (false,0,0),0⟩∧newE c0 c1 m c3=0):=zH (by simp [newS,newE,hb,hn])
 have HFR:Hid (newFr c0 c1 m c3=if largeS c0 c1 m c3=0 then []else [(largeA c0 c1 m c3,largeS c0 c1 m c3)]):=zH rfl
 have hmay:=may_large hb
 obtain ⟨la,hla⟩:∃x,largeA c0 c1 m c3=x:=⟨_,rfl⟩
 obtain ⟨ls,hls⟩:∃x,largeS c0 c1 m c3=x:=⟨_,rfl⟩
 rw [hla,hls]at HFR hmay
 have HM1:Hid (1≤m∧m≤1024):=zH (by omega)
 have HN:=zH hn
 have HB:=zH hb
 have HLA:=zH hla
 have HLS:=zH hls
 obtain ⟨mb,hmb⟩:∃b,decide (ls≠0)=b:=⟨_,rfl⟩
 rw [hmb]at hmay
 have HMB:=zH hmb
 have HMAY:=zH hmay
 clear h1 h2 h3 h4 h5 h6 h7 h8 hn hb hla hls hmb hmay
 have hS:=pers_new2 V #[.int .i64 c0,.int .i64 c1,.int .i64 m,.int .i64 c3] 23 _ rfl (.cells #[.int .i64 0,.int .i64 0,.int .i64 0,.int .i64 0,.bool false,.slice none 0 0,.int .i64 0,.slice none 0 0,.slice none 0 0,.slice none 0 0] 28)
 have hR:=pers_new (V.alloc (.cells #[.int .i64 c0,.int .i64 c1,.int .i64 m,.int .i64 c3] 23)) #[.int .i64 0,.int .i64 0,.int .i64 0,.int .i64 0,.bool false,.slice none 0 0,.int .i64 0,.slice none 0 0,.slice none 0 0,.slice none 0 0] 28 (V.heap.size+1) (by simp)
 have HXV:=zH (((Ext.refl V).alloc (.cells #[.int .i64 c0,.int .i64 c1,.int .i64 m,.int .i64 c3] 23)).alloc (.cells #[.int .i64 0,.int .i64 0,.int .i64 0,.int .i64 0,.bool false,.slice none 0 0,.int .i64 0,.slice none 0 0,.slice none 0 0,.slice none 0 0] 28))
 have HVR:Hid (V.heap.size≤V.heap.size+1):=zH (by omega)
 go_enter Try.func10,Try.ntmps10
 go_wp2_with fail
 generalize (V.alloc (.cells #[.int .i64 c0,.int .i64 c1,.int .i64 m,.int .i64 c3] 23)).alloc (.cells #[.int .i64 0,.int .i64 0,.int .i64 0,.int .i64 0,.bool false,.slice none 0 0,.int .i64 0,.slice none 0 0,.slice none 0 0,.slice none 0 0] 28)=W at*
 generalize V.heap.size+1=R at*
 have gS:=hS.cells
 ((first | refine at_baseC (W:=W) ?_ | refine at_base (W:=W) ?_);intro uq;(try go_wp2_with fail))
 (refine (check_is HB.out _).mono ?_;rintro e wq ⟨rfl,hx⟩;replace hx:=Ext.trans (a:=W) zE hx;obtain ⟨uq,rfl⟩:∃u:ExtOf W,wq=u.1:=⟨⟨wq,hx⟩,rfl⟩;clear hx;go_wp2_with fail)
 have hu:=uq.2
 refine wp_norm (Behind fun a' w'=>∃A,Hid (Own 54 1 u64C w' V.heap.size (.slice A n n) (List.replicate n 0))∧∃X,Hid (w'.heap[X]?=some (.cells #[.int .i64 c0,.int .i64 c1,.int .i64 m,.int .i64 c3,.bool false,.slice A n n,.int .i64 0,.slice none 0 0,.slice none 0 0,.slice none 0 0] 28 (0,0)))∧Hid (Ext W w')∧Hid (W.heap.size≤X)∧a'= {tmps:= #[.agg #[.int .i64 c0,.int .i64 c1,.int .i64 m,.int .i64 c3],.pointer (some ⟨V.heap.size,0,none⟩),.pointer (some ⟨R,0,none⟩),.int .i64 0,.pointer (some ⟨X,0,none⟩),undef,.agg #[.int .i64 c0,.int .i64 c1,.int .i64 m,.int .i64 c3],.bool true,.bool false,undef,.agg #[.int .i64 c0,.int .i64 c1,.int .i64 m,.int .i64 c3],.agg #[.int .i64 c0,.int .i64 c1,.int .i64 m,.int .i64 c3],.int .i64 n,.slice A n n,.agg #[.int .i64 c0,.int .i64 c1,.int .i64 m,.int .i64 c3,.bool false,.slice A n n,.int .i64 0,.slice none 0 0,.slice none 0 0,.slice none 0 0],undef,undef,undef,undef,undef,undef,undef,undef,undef,undef,undef,undef,undef,undef,undef],defers:= []}) ?_ ?_
 ·refine wp_region_tree (fun w'=>∃u:ExtOf W,w'=u.1) [0,1] 4 [(2,[(3,[(4,[(5,())]),(5,[(4,())])]),(5,[(3,[(4,())])])]),(5,[(2,[(3,[(4,())])])])] [6] (by kernel_rfl) (by kernel_rfl) (by intro c a d v w h;cases h.1) ⟨⟨_,hu.drew⟩,rfl⟩ ?_
  simp only [opsOf,List.map_cons,List.map_nil,List.getD_cons_zero,List.getD_cons_succ]
  (repeat (go_big_quiet_step (fail)))
  refine wpQuiet_nil ?_
  have HX:=zH hu.drew
  have HZ:Hid (V.heap.size≤W.heap.size):=zH HXV.out.size
  clear hu gS
  generalize uq.1.drew=wN at*
  ((first | refine tr_one ?_ | refine tr_two ?_ ?_) <;>(refine op_step (by rfl) ?_;intro K hK;first | (go_simp;refine (lwords_is HN.out _).mono ?_;rintro e wN ⟨rfl,hy⟩;refine hK _ _ (ext_uS (HX.out.trans hy)) ?_;clear hK K;(try replace HO:=zH (HO.out.ext hy));(try replace HO2:=zH (HO2.out.ext hy));(try replace HBK:=zH ((hy.block (lt_of_heap HBK.out)).trans HBK.out));replace HX:=zH (HX.out.trans hy);clear hy) | (refine wp_makeU (.tmp 12) rfl n (by rfl) (by have:=HNB.out;omega) ?_;intro wN ho hy;refine hK _ _ (ext_uS (HX.out.trans hy)) ?_;clear hK K;have HO:=zH (ho.mono (B':=V.heap.size) (by have:=HX.out.size;have:=HZ.out;omega));clear ho;(try replace HBK:=zH ((hy.block (lt_of_heap HBK.out)).trans HBK.out));replace HX:=zH (HX.out.trans hy);clear hy) | (go_simp;refine hK _ _ (ext_uS (HX.out.alloc _)) ?_;clear hK K;have hy:=(Ext.refl wN).alloc (.cells #[.int .i64 0,.int .i64 0,.int .i64 0,.int .i64 0,.bool false,.slice none 0 0,.int .i64 0,.slice none 0 0,.slice none 0 0,.slice none 0 0] 28);have HBK:=zH (blk_new wN #[.int .i64 0,.int .i64 0,.int .i64 0,.int .i64 0,.bool false,.slice none 0 0,.int .i64 0,.slice none 0 0,.slice none 0 0,.slice none 0 0] 28 _ rfl);have HWX:Hid (W.heap.size≤wN.heap.size):=zH HX.out.size;(try replace HO:=zH (HO.out.ext hy));replace HX:=zH (HX.out.trans hy);clear hy;generalize wN.alloc (.cells #[.int .i64 0,.int .i64 0,.int .i64 0,.int .i64 0,.bool false,.slice none 0 0,.int .i64 0,.slice none 0 0,.slice none 0 0,.slice none 0 0] 28)=wM at*;generalize wN.heap.size=X at*;rename World=>wN) | (go_simp;refine hK _ _ (ext_uS HX.out) ?_;clear hK K)))
  all_goals ((first | refine tr_one ?_ | refine tr_two ?_ ?_) <;>(refine op_step (by rfl) ?_;intro K hK;first | (go_simp;refine (lwords_is HN.out _).mono ?_;rintro e wN ⟨rfl,hy⟩;refine hK _ _ (ext_uS (HX.out.trans hy)) ?_;clear hK K;(try replace HO:=zH (HO.out.ext hy));(try replace HO2:=zH (HO2.out.ext hy));(try replace HBK:=zH ((hy.block (lt_of_heap HBK.out)).trans HBK.out));replace HX:=zH (HX.out.trans hy);clear hy) | (refine wp_makeU (.tmp 12) rfl n (by rfl) (by have:=HNB.out;omega) ?_;intro wN ho hy;refine hK _ _ (ext_uS (HX.out.trans hy)) ?_;clear hK K;have HO:=zH (ho.mono (B':=V.heap.size) (by have:=HX.out.size;have:=HZ.out;omega));clear ho;(try replace HBK:=zH ((hy.block (lt_of_heap HBK.out)).trans HBK.out));replace HX:=zH (HX.out.trans hy);clear hy) | (go_simp;refine hK _ _ (ext_uS (HX.out.alloc _)) ?_;clear hK K;have hy:=(Ext.refl wN).alloc (.cells #[.int .i64 0,.int .i64 0,.int .i64 0,.int .i64 0,.bool false,.slice none 0 0,.int .i64 0,.slice none 0 0,.slice none 0 0,.slice none 0 0] 28);have HBK:=zH (blk_new wN #[.int .i64 0,.int .i64 0,.int .i64 0,.int .i64 0,.bool false,.slice none 0 0,.int .i64 0,.slice none 0 0,.slice none 0 0,.slice none 0 0] 28 _ rfl);have HWX:Hid (W.heap.size≤wN.heap.size):=zH HX.out.size;(try replace HO:=zH (HO.out.ext hy));replace HX:=zH (HX.out.trans hy);clear hy;generalize wN.alloc (.cells #[.int .i64 0,.int .i64 0,.int .i64 0,.int .i64 0,.bool false,.slice none 0 0,.int .i64 0,.slice none 0 0,.slice none 0 0,.slice none 0 0] 28)=wM at*;generalize wN.heap.size=X at*;rename World=>wN) | (go_simp;refine hK _ _ (ext_uS HX.out) ?_;clear hK K)))
  all_goals ((first | refine tr_one ?_ | refine tr_two ?_ ?_) <;>(refine op_step (by rfl) ?_;intro K hK;first | (go_simp;refine (lwords_is HN.out _).mono ?_;rintro e wN ⟨rfl,hy⟩;refine hK _ _ (ext_uS (HX.out.trans hy)) ?_;clear hK K;(try replace HO:=zH (HO.out.ext hy));(try replace HO2:=zH (HO2.out.ext hy));(try replace HBK:=zH ((hy.block (lt_of_heap HBK.out)).trans HBK.out));replace HX:=zH (HX.out.trans hy);clear hy) | (refine wp_makeU (.tmp 12) rfl n (by rfl) (by have:=HNB.out;omega) ?_;intro wN ho hy;refine hK _ _ (ext_uS (HX.out.trans hy)) ?_;clear hK K;have HO:=zH (ho.mono (B':=V.heap.size) (by have:=HX.out.size;have:=HZ.out;omega));clear ho;(try replace HBK:=zH ((hy.block (lt_of_heap HBK.out)).trans HBK.out));replace HX:=zH (HX.out.trans hy);clear hy) | (go_simp;refine hK _ _ (ext_uS (HX.out.alloc _)) ?_;clear hK K;have hy:=(Ext.refl wN).alloc (.cells #[.int .i64 0,.int .i64 0,.int .i64 0,.int .i64 0,.bool false,.slice none 0 0,.int .i64 0,.slice none 0 0,.slice none 0 0,.slice none 0 0] 28);have HBK:=zH (blk_new wN #[.int .i64 0,.int .i64 0,.int .i64 0,.int .i64 0,.bool false,.slice none 0 0,.int .i64 0,.slice none 0 0,.slice none 0 0,.slice none 0 0] 28 _ rfl);have HWX:Hid (W.heap.size≤wN.heap.size):=zH HX.out.size;(try replace HO:=zH (HO.out.ext hy));replace HX:=zH (HX.out.trans hy);clear hy;generalize wN.alloc (.cells #[.int .i64 0,.int .i64 0,.int .i64 0,.int .i64 0,.bool false,.slice none 0 0,.int .i64 0,.slice none 0 0,.slice none 0 0,.slice none 0 0] 28)=wM at*;generalize wN.heap.size=X at*;rename World=>wN) | (go_simp;refine hK _ _ (ext_uS HX.out) ?_;clear hK K)))
  all_goals ((first | refine tr_one ?_ | refine tr_two ?_ ?_) <;>(refine op_step (by rfl) ?_;intro K hK;first | (go_simp;refine (lwords_is HN.out _).mono ?_;rintro e wN ⟨rfl,hy⟩;refine hK _ _ (ext_uS (HX.out.trans hy)) ?_;clear hK K;(try replace HO:=zH (HO.out.ext hy));(try replace HO2:=zH (HO2.out.ext hy));(try replace HBK:=zH ((hy.block (lt_of_heap HBK.out)).trans HBK.out));replace HX:=zH (HX.out.trans hy);clear hy) | (refine wp_makeU (.tmp 12) rfl n (by rfl) (by have:=HNB.out;omega) ?_;intro wN ho hy;refine hK _ _ (ext_uS (HX.out.trans hy)) ?_;clear hK K;have HO:=zH (ho.mono (B':=V.heap.size) (by have:=HX.out.size;have:=HZ.out;omega));clear ho;(try replace HBK:=zH ((hy.block (lt_of_heap HBK.out)).trans HBK.out));replace HX:=zH (HX.out.trans hy);clear hy) | (go_simp;refine hK _ _ (ext_uS (HX.out.alloc _)) ?_;clear hK K;have hy:=(Ext.refl wN).alloc (.cells #[.int .i64 0,.int .i64 0,.int .i64 0,.int .i64 0,.bool false,.slice none 0 0,.int .i64 0,.slice none 0 0,.slice none 0 0,.slice none 0 0] 28);have HBK:=zH (blk_new wN #[.int .i64 0,.int .i64 0,.int .i64 0,.int .i64 0,.bool false,.slice none 0 0,.int .i64 0,.slice none 0 0,.slice none 0 0,.slice none 0 0] 28 _ rfl);have HWX:Hid (W.heap.size≤wN.heap.size):=zH HX.out.size;(try replace HO:=zH (HO.out.ext hy));replace HX:=zH (HX.out.trans hy);clear hy;generalize wN.alloc (.cells #[.int .i64 0,.int .i64 0,.int .i64 0,.int .i64 0,.bool false,.slice none 0 0,.int .i64 0,.slice none 0 0,.slice none 0 0,.slice none 0 0] 28)=wM at*;generalize wN.heap.size=X at*;rename World=>wN) | (go_simp;refine hK _ _ (ext_uS HX.out) ?_;clear hK K)))
  all_goals
   refine tr_nil ?_
   try simp only [opsOf,List.map_cons,List.map_nil,List.getD_cons_zero,List.getD_cons_succ]
   have gX:=fun i=>(cells_of HBK.out).1 i
   have fX:=fun i=>(cells_of HBK.out).2 i
   go_wp2_with fail
   exact Behind.mk ⟨_,zH (own10 HO.out HBK.out (by decide) _ _ _ _ _ _ _ _ _ _),X,zH (blk10 HBK.out _ _ _ _ _ _ _ _ _ _),zH (ext10x HX.out HWX.out _ _ _ _ _ _ _ _ _ _),HWX,rfl⟩
 intro a' w3 hbeh
 obtain ⟨A,ho,X,hb,hx,hX,rfl⟩:=hbeh.out
 clear hbeh hu gS
 replace hx:=hx.out
 have HO:=pers_own ho.out
 have hK:=pers_blk hb.out
 have HVX:Hid (V.heap.size≤X):=zH (Nat.le_trans HXV.out.size hX.out)
 have HSX:Hid (V.heap.size≠X):=zH (by have:=lt_of_heap hS.here;have:=hX.out;omega)
 have HRX:Hid (R≠X):=zH (by have:=lt_of_heap hR.here;have:=hX.out;omega)
 (replace hS:=hS.re hx;replace hR:=hR.re hx)
 replace HXV:=zH (HXV.out.trans hx)
 clear ho hb hx hX
 have gS:=hS.cells
 ((first | refine at_baseC (W:=w3) ?_ | refine at_base (W:=w3) ?_);intro uq;(try go_wp2_with fail))
 (refine (llarge_is HLA.out HLS.out _).mono ?_;rintro e wq ⟨rfl,hx⟩;replace hx:=Ext.trans (a:=w3) zE hx;obtain ⟨uq,rfl⟩:∃u:ExtOf w3,wq=u.1:=⟨⟨wq,hx⟩,rfl⟩;clear hx;go_wp2_with fail)
 have hY:=pers_new uq.1 #[.int .i64 la,.int .i64 ls] 62 _ rfl
 have hyx:=uq.2.alloc (.cells #[.int .i64 la,.int .i64 ls] 62)
 (replace hS:=hS.re hyx;replace hR:=hR.re hyx;replace hK:=hK.re hyx;replace HO:=HO.re hyx)
 replace HXV:=zH (HXV.out.trans hyx)
 clear hyx gS
 generalize uq.1.alloc (.cells #[.int .i64 la,.int .i64 ls] 62)=w4 at*
 generalize uq.1.heap.size=Y at*
 have gS:=hS.cells
 have gY:=hY.cells
 have gK:=hK.cells
 have fK:=hK.frees
 have lK:=hK.lt
 have HV4:Hid (V.heap.size≤w4.heap.size):=zH HXV.out.size
 cases mb
 ·((first | refine at_baseC (W:=w4) ?_ | refine at_base (W:=w4) ?_);intro uq;(try go_wp2_with fail))
  (refine (mayS_is la ls false HMAY.out _).mono ?_;rintro e wq ⟨rfl,hx⟩;replace hx:=Ext.trans (a:=w4) zE hx;obtain ⟨uq,rfl⟩:∃u:ExtOf w4,wq=u.1:=⟨⟨wq,hx⟩,rfl⟩;clear hx;go_wp2_with fail)
  clear gS gY gK fK lK
  (refine (rnew_any m HM1.out.1 HM1.out.2 _).mono ?_;rintro e w6 ⟨rfl,ho2,hx⟩;replace hx:=Ext.trans (a:=w4) zE hx;replace hR:=hR.re hx;replace hK:=hK.re hx;replace HO:=HO.re hx)
  replace HXV:=zH (HXV.out.trans hx)
  have HO2:=pers_own (ho2.mono (B':=V.heap.size) (by have:=HV4.out;have:=uq.2.size;omega))
  clear ho2 hx
  generalize uq.1.heap.size=G at*
  have gR:=hR.cells
  have fR:=hR.frees
  have lR:=hR.lt
  have gK:=hK.cells
  have fK:=hK.frees
  have lK:=hK.lt
  have hq:=HRX.out
  ((first | refine at_baseC (W:=w6) ?_ | refine at_base (W:=w6) ?_);intro uq;(try go_wp2_with fail))
  ((try simp only [Exit.inBlock,Exit.then]);refine bodyPost_ret (v:= .tuple #[.agg #[.int .i64 c0,.int .i64 c1,.int .i64 m,.int .i64 c3,.bool false,.slice A n n,.int .i64 0,.slice none 0 0,.slice none 0 0,.slice (some ⟨G,0,none⟩) m m],.int .i64 0]) (by simp only [results,Try.results10];go_simp) rfl ?_)
  have o1:=HO.at uq.2
  have o2:=HO2.at uq.2
  have x1:=HXV.out.trans uq.2
  have bk:=hK.at uq.2
  have br:=hR.at uq.2
  refine ⟨⟨c0,c1,m,c3,false,A,List.replicate n 0,n,0,none,[],0,none,[],0,some ⟨G,0,none⟩,List.replicate m (false,0,0),m⟩,?_,⟨?_,Own.nil _ _ _ _ _,Own.nil _ _ _ _ _,?_⟩,?_,?_⟩
  ·rw [HNW.out.2];simp
  ·have n1:=(o1.ne_block bk (by decide)).symm
   have n2:=(o1.ne_block br (by decide)).symm
   simp only [List.length_replicate]
   repeat (first | with_reducible exact o1 | with_reducible refine Own.setNe ?_ n1 | with_reducible refine Own.setNe ?_ n2)
  ·have n1:=(o2.ne_block bk (by decide)).symm
   have n2:=(o2.ne_block br (by decide)).symm
   simp only [List.length_replicate]
   repeat (first | with_reducible exact o2 | with_reducible refine Own.setNe ?_ n1 | with_reducible refine Own.setNe ?_ n2)
  ·rw [HNW.out.1,HFR.out]
   have:=HMB.out
   simp [eqvS]at this⊢
   simp [this]
  ·have n1:=HVX.out
   have n2:=HVR.out
   repeat (first | with_reducible exact x1 | with_reducible refine Ext.setCell ?_ n1 _ | with_reducible refine Ext.setCell ?_ n2 _)
 ·((first | refine at_baseC (W:=w4) ?_ | refine at_base (W:=w4) ?_);intro uq;(try go_wp2_with fail))
  refine (mayS_is la ls true HMAY.out _).mono ?_
  rintro e wq ⟨rfl,hx⟩
  replace hx:=uq.2.trans hx
  obtain ⟨uq,rfl⟩:∃u:ExtOf w4,wq=u.1:=⟨⟨wq,hx⟩,rfl⟩
  clear hx
  have hs5:((uq.1.setCell ⟨X,8,none⟩ (.slice (some ⟨uq.1.heap.size,0,none⟩) 1 1)).alloc (.cells #[.int .i64 la,.int .i64 ls] 62)).heap[V.heap.size]?=some (.cells #[.int .i64 c0,.int .i64 c1,.int .i64 m,.int .i64 c3] 23 (0,0)):=blk_old (blk_set_other (hS.at uq.2) _ HSX.out)
  have c1:=(cells_of hs5).1
  go_wp2_with fail
  clear c1 hs5 gS gY gK fK lK
  have hk5:((uq.1.setCell ⟨X,8,none⟩ (.slice (some ⟨uq.1.heap.size,0,none⟩) 1 1)).alloc (.cells #[.int .i64 la,.int .i64 ls] 62)).heap[X]?=some (.cells #[.int .i64 c0,.int .i64 c1,.int .i64 m,.int .i64 c3,.bool false,.slice A n n,.int .i64 0,.slice none 0 0,.slice (some ⟨uq.1.heap.size,0,none⟩) 1 1,.slice none 0 0] 28 (0,0)):=blk_old (blk_set (hK.at uq.2) _)
  have hr5:((uq.1.setCell ⟨X,8,none⟩ (.slice (some ⟨uq.1.heap.size,0,none⟩) 1 1)).alloc (.cells #[.int .i64 la,.int .i64 ls] 62)).heap[R]?=some (.cells #[.int .i64 0,.int .i64 0,.int .i64 0,.int .i64 0,.bool false,.slice none 0 0,.int .i64 0,.slice none 0 0,.slice none 0 0,.slice none 0 0] 28 (0,0)):=blk_old (blk_set_other (hR.at uq.2) _ HRX.out)
  have ho5:=((HO.at uq.2).setOther (i:=8) (u:= .slice (some ⟨uq.1.heap.size,0,none⟩) 1 1) (hK.at uq.2) (by decide)).ext ((Ext.refl _).alloc (.cells #[.int .i64 la,.int .i64 ls] 62))
  have hf5:Own 62 2 spanC ((uq.1.setCell ⟨X,8,none⟩ (.slice (some ⟨uq.1.heap.size,0,none⟩) 1 1)).alloc (.cells #[.int .i64 la,.int .i64 ls] 62)) V.heap.size (.slice (some ⟨uq.1.heap.size,0,none⟩) 1 1) [(la,ls)]:=Own.lit spanCells [(la,ls)] _ rfl 1 rfl (by have:=HV4.out;have:=uq.2.size;simp;omega) (by simp [maxLen]) _ (by simp)
  have hx5:Ext V ((uq.1.setCell ⟨X,8,none⟩ (.slice (some ⟨uq.1.heap.size,0,none⟩) 1 1)).alloc (.cells #[.int .i64 la,.int .i64 ls] 62)):=((HXV.out.trans uq.2).setCell HVX.out _).alloc _
  generalize (uq.1.setCell ⟨X,8,none⟩ (.slice (some ⟨uq.1.heap.size,0,none⟩) 1 1)).alloc (.cells #[.int .i64 la,.int .i64 ls] 62)=w5 at*
  generalize uq.1.heap.size=Fr at*
  clear hS hR hK HO HXV
  have hK:=pers_blk hk5
  have hR:=pers_blk hr5
  have HO:=pers_own ho5
  have HO3:=pers_own hf5
  have HXV:=zH hx5
  clear hk5 hr5 ho5 hf5 hx5
  have HV5:Hid (V.heap.size≤w5.heap.size):=zH HXV.out.size
  ((first | refine at_baseC (W:=w5) ?_ | refine at_base (W:=w5) ?_);intro uq;(try go_wp2_with fail))
  (refine (rnew_any m HM1.out.1 HM1.out.2 _).mono ?_;rintro e w6 ⟨rfl,ho2,hx⟩;replace hx:=Ext.trans (a:=w5) zE hx;replace hR:=hR.re hx;replace hK:=hK.re hx;replace HO:=HO.re hx;replace HO3:=HO3.re hx)
  replace HXV:=zH (HXV.out.trans hx)
  have HO2:=pers_own (ho2.mono (B':=V.heap.size) (by have:=HV5.out;have:=uq.2.size;omega))
  clear ho2 hx
  generalize uq.1.heap.size=G at*
  have gR:=hR.cells
  have fR:=hR.frees
  have lR:=hR.lt
  have gK:=hK.cells
  have fK:=hK.frees
  have lK:=hK.lt
  have hq:=HRX.out
  ((first | refine at_baseC (W:=w6) ?_ | refine at_base (W:=w6) ?_);intro uq;(try go_wp2_with fail))
  ((try simp only [Exit.inBlock,Exit.then]);refine bodyPost_ret (v:= .tuple #[.agg #[.int .i64 c0,.int .i64 c1,.int .i64 m,.int .i64 c3,.bool false,.slice A n n,.int .i64 0,.slice none 0 0,.slice (some ⟨Fr,0,none⟩) 1 1,.slice (some ⟨G,0,none⟩) m m],.int .i64 0]) (by simp only [results,Try.results10];go_simp) rfl ?_)
  have o1:=HO.at uq.2
  have o2:=HO2.at uq.2
  have x1:=HXV.out.trans uq.2
  have bk:=hK.at uq.2
  have br:=hR.at uq.2
  refine ⟨⟨c0,c1,m,c3,false,A,List.replicate n 0,n,0,none,[],0,some ⟨Fr,0,none⟩,[(la,ls)],1,some ⟨G,0,none⟩,List.replicate m (false,0,0),m⟩,?_,⟨?_,Own.nil _ _ _ _ _,?_,?_⟩,?_,?_⟩
  ·rw [HNW.out.2];simp
  ·have n1:=(o1.ne_block bk (by decide)).symm
   have n2:=(o1.ne_block br (by decide)).symm
   simp only [List.length_replicate]
   repeat (first | with_reducible exact o1 | with_reducible refine Own.setNe ?_ n1 | with_reducible refine Own.setNe ?_ n2)
  ·have o3:=HO3.at uq.2
   simp only [List.length_cons,List.length_nil,Nat.zero_add]
   have n1:=(o3.ne_block bk (by decide)).symm
   have n2:=(o3.ne_block br (by decide)).symm
   repeat (first | with_reducible exact o3 | with_reducible refine Own.setNe ?_ n1 | with_reducible refine Own.setNe ?_ n2)
  ·have n1:=(o2.ne_block bk (by decide)).symm
   have n2:=(o2.ne_block br (by decide)).symm
   simp only [List.length_replicate]
   repeat (first | with_reducible exact o2 | with_reducible refine Own.setNe ?_ n1 | with_reducible refine Own.setNe ?_ n2)
  ·rw [HNW.out.1,HFR.out]
   have:=HMB.out
   simp [eqvS]at this⊢
   simp [this]
  ·have n1:=HVX.out
   have n2:=HVR.out
   repeat (first | with_reducible exact x1 | with_reducible refine Ext.setCell ?_ n1 _ | with_reducible refine Ext.setCell ?_ n2 _)
theorem stnew_any (c0 c1 c2 c3:Int) (V:World):Calls Try.prog 10 #[.agg #[.int .i64 (c0),.int .i64 (c1),.int .i64 (c2),.int .i64 (c3)]] V (RetNew V (newS c0 c1 c2 c3) (newE c0 c1 c2 c3)):=by
 by_cases hb:cfgB c0 c1 c2 c3=true
 ·exact stnew_yes c0 c1 c2 c3 hb V
 ·exact stnew_no c0 c1 c2 c3 (by simpa using hb) V
theorem run_store_blk {P:Program} {w:World} {X i:Nat} {u:Value} {cs:Array Value} {t:TypeId} (hb:w.heap[X]?=some (.cells cs t (0,0))) (hi:i < cs.size) (h1:u.oneCell'=true):(store ⟨X,i,none⟩ u).run P w= .ok () (w.setCell ⟨X,i,none⟩ u):=by
 have h2:=(cells_of hb).1 i
 have h3:=(cells_of hb).2 i
 rw [run_store P w _ u _ h1,h2,Array.getElem?_eq_getElem hi]
 simp only [h3]
 rfl
end Go.Proofs.Ytemmjmplhknemaa
