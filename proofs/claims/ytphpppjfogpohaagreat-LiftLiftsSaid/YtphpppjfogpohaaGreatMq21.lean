/- Merged by program (merge.py) out of: LwN, StT, StU, RfCo. -/
import Derived.Test.YtphpppjfogpohaaGreatMq0
import Derived.Test.YtphpppjfogpohaaGreatMq20
import Derived.Test.YtphpppjfogpohaaGreatMq14
import Derived.Test.YtphpppjfogpohaaGreatMq12
import Derived.Test.YtphpppjfogpohaaGreatMq18
import Derived.Test.YtphpppjfogpohaaGreatMq1
import Derived.Test.YtphpppjfogpohaaGreatMq4
import Derived.Test.YtphpppjfogpohaaGreatMq11
set_option linter.unusedSimpArgs false
set_option linter.unusedVariables false
set_option maxRecDepth 100000
set_option maxHeartbeats 16000000
namespace Go.Proofs.YtphpppjfogpohaaGreat
open Go.RowKit Go.Shelf
def mx (c0 c1 c2 c3:Int):List (Int×Int):=if bC c0 c1 c2 c3=0 then []else [(bE c0 c1 c2 c3,bC c0 c1 c2 c3)]
def newS (c0 c1 c2 c3:Int):StD:=if cfgB c0 c1 c2 c3 then ⟨c0,c1,c2,c3,false,none,List.replicate (cZ c0 c1 c2 c3).toNat 0,0,0,none,[],0,none,mx c0 c1 c2 c3,0,none,List.replicate c2.toNat (false,0,0),0⟩
 else ⟨0,0,0,0,false,none,[],0,0,none,[],0,none,[],0,none,[],0⟩
def newE (c0 c1 c2 c3:Int):Int:=if cfgB c0 c1 c2 c3 then 0 else 1
theorem wS {V w:World} (h:Ext V w) {X:Nat} (hX:V.heap.size≤X) (u0 u1 u2 u3 u4 u5 u6 u7 u8 u9:Value):Ext V ((((((((((w.setCell ⟨X,0,none⟩ u0).setCell ⟨X,1,none⟩ u1).setCell ⟨X,2,none⟩ u2).setCell ⟨X,3,none⟩ u3).setCell ⟨X,4,none⟩ u4).setCell ⟨X,5,none⟩ u5).setCell ⟨X,6,none⟩ u6).setCell ⟨X,7,none⟩ u7).setCell ⟨X,8,none⟩ u8).setCell ⟨X,9,none⟩ u9):=
 (((((((((h.setCell hX _).setCell hX _).setCell hX _).setCell hX _).setCell hX _).setCell hX _).setCell hX _).setCell hX _).setCell hX _).setCell hX _
theorem dU {W w:World} (h:Ext W w):∃u:ExtOf W,w=u.1:=⟨⟨w,h⟩,rfl⟩
theorem zx {α:Type} {e:TypeId} {n:Nat} {f:α→List Value} {B:Nat} {v:Value} {xs:List α} {w:World} (h:Own e n f w B v xs) {X:Nat} {cs:Array Value} {t:TypeId} {r:Nat×Nat} (hb:w.heap[X]?=some (.cells cs t r)) (hne:t≠e) (u0 u1 u2 u3 u4 u5 u6 u7 u8 u9:Value):
  Own e n f ((((((((((w.setCell ⟨X,0,none⟩ u0).setCell ⟨X,1,none⟩ u1).setCell ⟨X,2,none⟩ u2).setCell ⟨X,3,none⟩ u3).setCell ⟨X,4,none⟩ u4).setCell ⟨X,5,none⟩ u5).setCell ⟨X,6,none⟩ u6).setCell ⟨X,7,none⟩ u7).setCell ⟨X,8,none⟩ u8).setCell ⟨X,9,none⟩ u9) B v xs:=by
 have n1:=(h.ne_block hb hne).symm
 repeat (first | with_reducible exact h | with_reducible refine AT ?_ n1)
theorem zy {w:World} {X:Nat} {v0 v1 v2 v3 v4 v5 v6 v7 v8 v9:Value} {t:TypeId} (hb:w.heap[X]?=some (.cells #[v0,v1,v2,v3,v4,v5,v6,v7,v8,v9] t (0,0))) (u0 u1 u2 u3 u4 u5 u6 u7 u8 u9:Value):
  ((((((((((w.setCell ⟨X,0,none⟩ u0).setCell ⟨X,1,none⟩ u1).setCell ⟨X,2,none⟩ u2).setCell ⟨X,3,none⟩ u3).setCell ⟨X,4,none⟩ u4).setCell ⟨X,5,none⟩ u5).setCell ⟨X,6,none⟩ u6).setCell ⟨X,7,none⟩ u7).setCell ⟨X,8,none⟩ u8).setCell ⟨X,9,none⟩ u9).heap[X]?=some (.cells #[u0,u1,u2,u3,u4,u5,u6,u7,u8,u9] t (0,0)):=by
 have h0:(w.setCell ⟨X,0,none⟩ u0).heap[X]?=some (.cells #[u0,v1,v2,v3,v4,v5,v6,v7,v8,v9] t (0,0)):=aL hb u0
 have h1:((w.setCell ⟨X,0,none⟩ u0).setCell ⟨X,1,none⟩ u1).heap[X]?=some (.cells #[u0,u1,v2,v3,v4,v5,v6,v7,v8,v9] t (0,0)):=aL h0 u1
 have h2:(((w.setCell ⟨X,0,none⟩ u0).setCell ⟨X,1,none⟩ u1).setCell ⟨X,2,none⟩ u2).heap[X]?=some (.cells #[u0,u1,u2,v3,v4,v5,v6,v7,v8,v9] t (0,0)):=aL h1 u2
 have h3:((((w.setCell ⟨X,0,none⟩ u0).setCell ⟨X,1,none⟩ u1).setCell ⟨X,2,none⟩ u2).setCell ⟨X,3,none⟩ u3).heap[X]?=some (.cells #[u0,u1,u2,u3,v4,v5,v6,v7,v8,v9] t (0,0)):=aL h2 u3
 have h4:(((((w.setCell ⟨X,0,none⟩ u0).setCell ⟨X,1,none⟩ u1).setCell ⟨X,2,none⟩ u2).setCell ⟨X,3,none⟩ u3).setCell ⟨X,4,none⟩ u4).heap[X]?=some (.cells #[u0,u1,u2,u3,u4,v5,v6,v7,v8,v9] t (0,0)):=aL h3 u4
 have h5:((((((w.setCell ⟨X,0,none⟩ u0).setCell ⟨X,1,none⟩ u1).setCell ⟨X,2,none⟩ u2).setCell ⟨X,3,none⟩ u3).setCell ⟨X,4,none⟩ u4).setCell ⟨X,5,none⟩ u5).heap[X]?=some (.cells #[u0,u1,u2,u3,u4,u5,v6,v7,v8,v9] t (0,0)):=aL h4 u5
 have h6:(((((((w.setCell ⟨X,0,none⟩ u0).setCell ⟨X,1,none⟩ u1).setCell ⟨X,2,none⟩ u2).setCell ⟨X,3,none⟩ u3).setCell ⟨X,4,none⟩ u4).setCell ⟨X,5,none⟩ u5).setCell ⟨X,6,none⟩ u6).heap[X]?=some (.cells #[u0,u1,u2,u3,u4,u5,u6,v7,v8,v9] t (0,0)):=aL h5 u6
 have h7:((((((((w.setCell ⟨X,0,none⟩ u0).setCell ⟨X,1,none⟩ u1).setCell ⟨X,2,none⟩ u2).setCell ⟨X,3,none⟩ u3).setCell ⟨X,4,none⟩ u4).setCell ⟨X,5,none⟩ u5).setCell ⟨X,6,none⟩ u6).setCell ⟨X,7,none⟩ u7).heap[X]?=some (.cells #[u0,u1,u2,u3,u4,u5,u6,u7,v8,v9] t (0,0)):=aL h6 u7
 have h8:(((((((((w.setCell ⟨X,0,none⟩ u0).setCell ⟨X,1,none⟩ u1).setCell ⟨X,2,none⟩ u2).setCell ⟨X,3,none⟩ u3).setCell ⟨X,4,none⟩ u4).setCell ⟨X,5,none⟩ u5).setCell ⟨X,6,none⟩ u6).setCell ⟨X,7,none⟩ u7).setCell ⟨X,8,none⟩ u8).heap[X]?=some (.cells #[u0,u1,u2,u3,u4,u5,u6,u7,u8,v9] t (0,0)):=aL h7 u8
 have h9:((((((((((w.setCell ⟨X,0,none⟩ u0).setCell ⟨X,1,none⟩ u1).setCell ⟨X,2,none⟩ u2).setCell ⟨X,3,none⟩ u3).setCell ⟨X,4,none⟩ u4).setCell ⟨X,5,none⟩ u5).setCell ⟨X,6,none⟩ u6).setCell ⟨X,7,none⟩ u7).setCell ⟨X,8,none⟩ u8).setCell ⟨X,9,none⟩ u9).heap[X]?=some (.cells #[u0,u1,u2,u3,u4,u5,u6,u7,u8,u9] t (0,0)):=aL h8 u9
 exact h9
theorem iz {o:Oper} {a:Act} {w:World} {K:Act→World→Prop} {Q:Exit→Act→World→Prop} (l:Operand) (hop:o.op=Op.makeSlice 30 l l) (n:Nat) (hl:a.eval l= .int .i64 (n:Int)) (hn:n≤17592186044416)
  (hK:∀w',Own 61 1 u64C w' w.heap.size (.slice (some ⟨w.heap.size,0,none⟩) n n) (List.replicate n (0:Int))→Ext w w'→K (a.put o.dst (.slice (some ⟨w.heap.size,0,none⟩) n n)) w'):o.wp Tryz.prog a w K Q:=by
 obtain ⟨i,hi,hz0,hz1,hz2⟩:=info_parts pQ
 obtain ⟨w',hrun,r1,r2⟩:=run_make_full (P:=Tryz.prog) w w.heap.size 30 61 i (.int .u64 0) 1 Tryz.underlying30 hi hz0 hz1 .i64 .i64 n (by rw [hz2];omega) (by unfold maxLen;omega) (Nat.le_refl _)
 have hown:Own 61 1 u64C w' w.heap.size (.slice (some ⟨w.heap.size,0,none⟩) n n) (List.replicate n (0:Int)):=by
  unfold Own
  have e:(List.replicate n (0:Int)).flatMap u64C=(madeCells (Value.int .u64 0).cells (n*1)).toList:=by
   rw [Nat.mul_one,show (Value.int .u64 0).cells= #[Value.int .u64 0]from rfl,toList_madeCells_one]
   clear r1 r2 hl hn hK hrun
   induction n with
   | zero=>rfl
   | succ n ih=>rw [List.replicate_succ,List.flatMap_cons,ih];rfl
  rw [e,List.length_replicate]
  exact r1
 unfold Oper.wp
 simp [execOp,hop,hl,hrun,Result.andThen]
 exact hK _ hown ⟨r2.os,r2.tape,r2.output,r2.size,fun k hk=>r2.block k hk sM⟩
def ru (V:World) (s:StD) (er:Int) (e:Ending) (w':World):Prop:=∃t:StD,e= .returned (.tuple #[.agg #[.int .i64 t.c0,.int .i64 t.c1,.int .i64 t.c2,.int .i64 t.c3,.bool t.snd,.slice t.wA t.ws.length t.wc,.int .i64 t.top,.slice t.tA t.tb.length t.tc,.slice t.fA t.fr.length t.fc,.slice t.sA t.sl.length t.sc],.int .i64 er])∧StOwn V.heap.size w' t∧eqvS t s=true∧Ext V w'
theorem wT (c0 c1 c2 c3:Int) (hb:cfgB c0 c1 c2 c3=false) (V:World):Calls Tryz.prog 39 #[.agg #[.int .i64 (c0),.int .i64 (c1),.int .i64 (c2),.int .i64 (c3)]] V (ru V (newS c0 c1 c2 c3) (newE c0 c1 c2 c3)):=by
 have hS:=iP V #[.int .i64 c0,.int .i64 c1,.int .i64 c2,.int .i64 c3] 23 _ rfl (.cells #[.int .i64 0,.int .i64 0,.int .i64 0,.int .i64 0,.bool false,.slice none 0 0,.int .i64 0,.slice none 0 0,.slice none 0 0,.slice none 0 0] 34)
 have hR:=aG (V.alloc (.cells #[.int .i64 c0,.int .i64 c1,.int .i64 c2,.int .i64 c3] 23)) #[.int .i64 0,.int .i64 0,.int .i64 0,.int .i64 0,.bool false,.slice none 0 0,.int .i64 0,.slice none 0 0,.slice none 0 0,.slice none 0 0] 34 (V.heap.size+1) sM
 have HX:=zH (((AD V).alloc (.cells #[.int .i64 c0,.int .i64 c1,.int .i64 c2,.int .i64 c3] 23)).alloc (.cells #[.int .i64 0,.int .i64 0,.int .i64 0,.int .i64 0,.bool false,.slice none 0 0,.int .i64 0,.slice none 0 0,.slice none 0 0,.slice none 0 0] 34))
 have HVR:Hid (V.heap.size≤V.heap.size+1):=zH oM
 have HB:=zH hb
 have HN:Hid (newS c0 c1 c2 c3=⟨0,0,0,0,false,none,[],0,0,none,[],0,none,[],0,none,[],0⟩∧newE c0 c1 c2 c3=1):=zH (by simp [newS,newE,hb])
 clear hb
 go_enter Tryz.func39,Tryz.ntmps39
 go_wp2_with fail
 generalize (V.alloc (.cells #[.int .i64 c0,.int .i64 c1,.int .i64 c2,.int .i64 c3] 23)).alloc (.cells #[.int .i64 0,.int .i64 0,.int .i64 0,.int .i64 0,.bool false,.slice none 0 0,.int .i64 0,.slice none 0 0,.slice none 0 0,.slice none 0 0] 34)=W at*
 generalize V.heap.size+1=R at*
 have gS:=hS.cells
 have gR:=hR.cells
 have fR:=hR.frees
 have lR:=hR.lt
 ((first | refine aM (W:=W) ?_ | refine aT (W:=W) ?_);intro uq;(try go_wp2_with fail))
 (refine (lQ HB.out _).mono ?_;rintro e wq ⟨rfl,hx⟩;replace hx:=AF (a:=W) zE hx;obtain ⟨uq,rfl⟩:∃u:ExtOf W,wq=u.1:=⟨⟨wq,hx⟩,rfl⟩;clear hx;go_wp2_with fail)
 ((try simp only [Exit.inBlock,Exit.then]);refine bodyPost_ret (v:= .tuple #[.agg #[.int .i64 0,.int .i64 0,.int .i64 0,.int .i64 0,.bool false,.slice none 0 0,.int .i64 0,.slice none 0 0,.slice none 0 0,.slice none 0 0],.int .i64 1]) (by simp only [results,Tryz.results39];go_simp) rfl ?_)
 refine ⟨⟨0,0,0,0,false,none,[],0,0,none,[],0,none,[],0,none,[],0⟩,by rw [HN.out.2];rfl,⟨AM _ _ _ _ _,AM _ _ _ _ _,AM _ _ _ _ _,AM _ _ _ _ _⟩,by rw [HN.out.1];rfl,wS (HX.out.trans uq.2) HVR.out _ _ _ _ _ _ _ _ _ _⟩
theorem uN {c0 c1 c2 c3:Int} (hb:cfgB c0 c1 c2 c3=true):mayB (bE c0 c1 c2 c3) (bC c0 c1 c2 c3)=decide (bC c0 c1 c2 c3≠0):=by
 obtain ⟨h1,h2,h3,h4,h5,h6,h7,h8⟩:=gN hb
 simp only [bE,bC,hb,if_true]
 by_cases h:c1=0
 ·subst h;simp [mayB]
 ·rw [if_neg h];simp [mayB,h];omega
theorem uO (c0 c1 c2 c3:Int) (hb:cfgB c0 c1 c2 c3=true) (V:World):Calls Tryz.prog 39 #[.agg #[.int .i64 (c0),.int .i64 (c1),.int .i64 (c2),.int .i64 (c3)]] V (ru V (newS c0 c1 c2 c3) (newE c0 c1 c2 c3)):=by
 obtain ⟨h1,h2,h3,h4,h5,h6,h7,h8⟩:=gN hb
 obtain ⟨m,rfl⟩:=Int.eq_ofNat_of_zero_le (show 0≤c2 by omega)
 obtain ⟨n,hn⟩:∃n:Nat,cZ c0 c1 m c3=n:=⟨(2*c0+c1).toNat,by simp only [cZ,hb,if_true];omega⟩
 have HNB:Hid (n≤98304):=zH (by simp only [cZ,hb,if_true]at hn;omega)
 have HNW:Hid (newS c0 c1 m c3=⟨c0,c1,m,c3,false,none,List.replicate n 0,0,0,none,[],0,none,mx c0 c1 m c3,0,none,List.replicate m (false,0,0),0⟩∧newE c0 c1 m c3=0):=zH (by simp [newS,newE,hb,hn])
 have HFR:Hid (mx c0 c1 m c3=if bC c0 c1 m c3=0 then []else [(bE c0 c1 m c3,bC c0 c1 m c3)]):=zH rfl
 have hmay:=uN hb
 obtain ⟨la,hla⟩:∃x,bE c0 c1 m c3=x:=⟨_,rfl⟩
 obtain ⟨ls,hls⟩:∃x,bC c0 c1 m c3=x:=⟨_,rfl⟩
 rw [hla,hls]at HFR hmay
 have HM1:Hid (1≤m∧m≤1024):=zH oM
 have HN:=zH hn
 have HB:=zH hb
 have HLA:=zH hla
 have HLS:=zH hls
 obtain ⟨mb,hmb⟩:∃b,decide (ls≠0)=b:=⟨_,rfl⟩
 rw [hmb]at hmay
 have HMB:=zH hmb
 have HMAY:=zH hmay
 clear h1 h2 h3 h4 h5 h6 h7 h8 hn hb hla hls hmb hmay
 have hS:=iP V #[.int .i64 c0,.int .i64 c1,.int .i64 m,.int .i64 c3] 23 _ rfl (.cells #[.int .i64 0,.int .i64 0,.int .i64 0,.int .i64 0,.bool false,.slice none 0 0,.int .i64 0,.slice none 0 0,.slice none 0 0,.slice none 0 0] 34)
 have hR:=aG (V.alloc (.cells #[.int .i64 c0,.int .i64 c1,.int .i64 m,.int .i64 c3] 23)) #[.int .i64 0,.int .i64 0,.int .i64 0,.int .i64 0,.bool false,.slice none 0 0,.int .i64 0,.slice none 0 0,.slice none 0 0,.slice none 0 0] 34 (V.heap.size+1) sM
 have HXV:=zH (((AD V).alloc (.cells #[.int .i64 c0,.int .i64 c1,.int .i64 m,.int .i64 c3] 23)).alloc (.cells #[.int .i64 0,.int .i64 0,.int .i64 0,.int .i64 0,.bool false,.slice none 0 0,.int .i64 0,.slice none 0 0,.slice none 0 0,.slice none 0 0] 34))
 have HVR:Hid (V.heap.size≤V.heap.size+1):=zH oM
 go_enter Tryz.func39,Tryz.ntmps39
 go_wp2_with fail
 generalize (V.alloc (.cells #[.int .i64 c0,.int .i64 c1,.int .i64 m,.int .i64 c3] 23)).alloc (.cells #[.int .i64 0,.int .i64 0,.int .i64 0,.int .i64 0,.bool false,.slice none 0 0,.int .i64 0,.slice none 0 0,.slice none 0 0,.slice none 0 0] 34)=W at*
 generalize V.heap.size+1=R at*
 have gS:=hS.cells
 ((first | refine aM (W:=W) ?_ | refine aT (W:=W) ?_);intro uq;(try go_wp2_with fail))
 (refine (lQ HB.out _).mono ?_;rintro e wq ⟨rfl,hx⟩;replace hx:=AF (a:=W) zE hx;obtain ⟨uq,rfl⟩:∃u:ExtOf W,wq=u.1:=⟨⟨wq,hx⟩,rfl⟩;clear hx;go_wp2_with fail)
 have hu:=uq.2
 refine kE (Behind fun a' w'=>∃A,Hid (Own 61 1 u64C w' V.heap.size (.slice A n n) (List.replicate n 0))∧∃X,Hid (w'.heap[X]?=some (.cells #[.int .i64 c0,.int .i64 c1,.int .i64 m,.int .i64 c3,.bool false,.slice A n n,.int .i64 0,.slice none 0 0,.slice none 0 0,.slice none 0 0] 34 (0,0)))∧Hid (Ext W w')∧Hid (W.heap.size≤X)∧a'= {tmps:= #[.agg #[.int .i64 c0,.int .i64 c1,.int .i64 m,.int .i64 c3],.pointer (some ⟨V.heap.size,0,none⟩),.pointer (some ⟨R,0,none⟩),.int .i64 0,.pointer (some ⟨X,0,none⟩),undef,.agg #[.int .i64 c0,.int .i64 c1,.int .i64 m,.int .i64 c3],.bool true,.bool false,undef,.agg #[.int .i64 c0,.int .i64 c1,.int .i64 m,.int .i64 c3],.agg #[.int .i64 c0,.int .i64 c1,.int .i64 m,.int .i64 c3],.int .i64 n,.slice A n n,.agg #[.int .i64 c0,.int .i64 c1,.int .i64 m,.int .i64 c3,.bool false,.slice A n n,.int .i64 0,.slice none 0 0,.slice none 0 0,.slice none 0 0],undef,undef,undef,undef,undef,undef,undef,undef,undef,undef,undef,undef,undef,undef,undef],defers:= []}) ?_ ?_
 ·refine eu (fun w'=>∃u:ExtOf W,w'=u.1) [0,1] 4 [(2,[(3,[(4,[(5,())]),(5,[(4,())])]),(5,[(3,[(4,())])])]),(5,[(2,[(3,[(4,())])])])] [6] kR kR (by intro c a d v w h;cases h.1) ⟨⟨_,hu.drew⟩,rfl⟩ ?_
  simp only [aI,List.map_cons,List.map_nil,List.getD_cons_zero,List.getD_cons_succ]
  (repeat (go_big_quiet_step (fail)))
  refine wpQuiet_nil ?_
  have HX:=zH hu.drew
  have HZ:Hid (V.heap.size≤W.heap.size):=zH HXV.out.size
  clear hu gS
  generalize uq.1.drew=wN at*
  ((first | refine dS ?_ | refine jP ?_ ?_) <;>(refine bi rM ?_;intro K hK;first | (go_simp;refine (fu HN.out _).mono ?_;rintro e wN ⟨rfl,hy⟩;refine hK _ _ (dU (HX.out.trans hy)) ?_;clear hK K;(try replace HO:=zH (HO.out.ext hy));(try replace HO2:=zH (HO2.out.ext hy));(try replace HBK:=zH ((hy.block (aA HBK.out)).trans HBK.out));replace HX:=zH (HX.out.trans hy);clear hy) | (refine iz (.tmp 12) rfl n rM (by have:=HNB.out;omega) ?_;intro wN ho hy;refine hK _ _ (dU (HX.out.trans hy)) ?_;clear hK K;have HO:=zH (ho.mono (B':=V.heap.size) (by have:=HX.out.size;have:=HZ.out;omega));clear ho;(try replace HBK:=zH ((hy.block (aA HBK.out)).trans HBK.out));replace HX:=zH (HX.out.trans hy);clear hy) | (go_simp;refine hK _ _ (dU (HX.out.alloc _)) ?_;clear hK K;have hy:=(AD wN).alloc (.cells #[.int .i64 0,.int .i64 0,.int .i64 0,.int .i64 0,.bool false,.slice none 0 0,.int .i64 0,.slice none 0 0,.slice none 0 0,.slice none 0 0] 34);have HBK:=zH (aR wN #[.int .i64 0,.int .i64 0,.int .i64 0,.int .i64 0,.bool false,.slice none 0 0,.int .i64 0,.slice none 0 0,.slice none 0 0,.slice none 0 0] 34 _ rfl);have HWX:Hid (W.heap.size≤wN.heap.size):=zH HX.out.size;(try replace HO:=zH (HO.out.ext hy));replace HX:=zH (HX.out.trans hy);clear hy;generalize wN.alloc (.cells #[.int .i64 0,.int .i64 0,.int .i64 0,.int .i64 0,.bool false,.slice none 0 0,.int .i64 0,.slice none 0 0,.slice none 0 0,.slice none 0 0] 34)=wM at*;generalize wN.heap.size=X at*;rename World=>wN) | (go_simp;refine hK _ _ (dU HX.out) ?_;clear hK K)))
  all_goals ((first | refine dS ?_ | refine jP ?_ ?_) <;>(refine bi rM ?_;intro K hK;first | (go_simp;refine (fu HN.out _).mono ?_;rintro e wN ⟨rfl,hy⟩;refine hK _ _ (dU (HX.out.trans hy)) ?_;clear hK K;(try replace HO:=zH (HO.out.ext hy));(try replace HO2:=zH (HO2.out.ext hy));(try replace HBK:=zH ((hy.block (aA HBK.out)).trans HBK.out));replace HX:=zH (HX.out.trans hy);clear hy) | (refine iz (.tmp 12) rfl n rM (by have:=HNB.out;omega) ?_;intro wN ho hy;refine hK _ _ (dU (HX.out.trans hy)) ?_;clear hK K;have HO:=zH (ho.mono (B':=V.heap.size) (by have:=HX.out.size;have:=HZ.out;omega));clear ho;(try replace HBK:=zH ((hy.block (aA HBK.out)).trans HBK.out));replace HX:=zH (HX.out.trans hy);clear hy) | (go_simp;refine hK _ _ (dU (HX.out.alloc _)) ?_;clear hK K;have hy:=(AD wN).alloc (.cells #[.int .i64 0,.int .i64 0,.int .i64 0,.int .i64 0,.bool false,.slice none 0 0,.int .i64 0,.slice none 0 0,.slice none 0 0,.slice none 0 0] 34);have HBK:=zH (aR wN #[.int .i64 0,.int .i64 0,.int .i64 0,.int .i64 0,.bool false,.slice none 0 0,.int .i64 0,.slice none 0 0,.slice none 0 0,.slice none 0 0] 34 _ rfl);have HWX:Hid (W.heap.size≤wN.heap.size):=zH HX.out.size;(try replace HO:=zH (HO.out.ext hy));replace HX:=zH (HX.out.trans hy);clear hy;generalize wN.alloc (.cells #[.int .i64 0,.int .i64 0,.int .i64 0,.int .i64 0,.bool false,.slice none 0 0,.int .i64 0,.slice none 0 0,.slice none 0 0,.slice none 0 0] 34)=wM at*;generalize wN.heap.size=X at*;rename World=>wN) | (go_simp;refine hK _ _ (dU HX.out) ?_;clear hK K)))
  all_goals ((first | refine dS ?_ | refine jP ?_ ?_) <;>(refine bi rM ?_;intro K hK;first | (go_simp;refine (fu HN.out _).mono ?_;rintro e wN ⟨rfl,hy⟩;refine hK _ _ (dU (HX.out.trans hy)) ?_;clear hK K;(try replace HO:=zH (HO.out.ext hy));(try replace HO2:=zH (HO2.out.ext hy));(try replace HBK:=zH ((hy.block (aA HBK.out)).trans HBK.out));replace HX:=zH (HX.out.trans hy);clear hy) | (refine iz (.tmp 12) rfl n rM (by have:=HNB.out;omega) ?_;intro wN ho hy;refine hK _ _ (dU (HX.out.trans hy)) ?_;clear hK K;have HO:=zH (ho.mono (B':=V.heap.size) (by have:=HX.out.size;have:=HZ.out;omega));clear ho;(try replace HBK:=zH ((hy.block (aA HBK.out)).trans HBK.out));replace HX:=zH (HX.out.trans hy);clear hy) | (go_simp;refine hK _ _ (dU (HX.out.alloc _)) ?_;clear hK K;have hy:=(AD wN).alloc (.cells #[.int .i64 0,.int .i64 0,.int .i64 0,.int .i64 0,.bool false,.slice none 0 0,.int .i64 0,.slice none 0 0,.slice none 0 0,.slice none 0 0] 34);have HBK:=zH (aR wN #[.int .i64 0,.int .i64 0,.int .i64 0,.int .i64 0,.bool false,.slice none 0 0,.int .i64 0,.slice none 0 0,.slice none 0 0,.slice none 0 0] 34 _ rfl);have HWX:Hid (W.heap.size≤wN.heap.size):=zH HX.out.size;(try replace HO:=zH (HO.out.ext hy));replace HX:=zH (HX.out.trans hy);clear hy;generalize wN.alloc (.cells #[.int .i64 0,.int .i64 0,.int .i64 0,.int .i64 0,.bool false,.slice none 0 0,.int .i64 0,.slice none 0 0,.slice none 0 0,.slice none 0 0] 34)=wM at*;generalize wN.heap.size=X at*;rename World=>wN) | (go_simp;refine hK _ _ (dU HX.out) ?_;clear hK K)))
  all_goals ((first | refine dS ?_ | refine jP ?_ ?_) <;>(refine bi rM ?_;intro K hK;first | (go_simp;refine (fu HN.out _).mono ?_;rintro e wN ⟨rfl,hy⟩;refine hK _ _ (dU (HX.out.trans hy)) ?_;clear hK K;(try replace HO:=zH (HO.out.ext hy));(try replace HO2:=zH (HO2.out.ext hy));(try replace HBK:=zH ((hy.block (aA HBK.out)).trans HBK.out));replace HX:=zH (HX.out.trans hy);clear hy) | (refine iz (.tmp 12) rfl n rM (by have:=HNB.out;omega) ?_;intro wN ho hy;refine hK _ _ (dU (HX.out.trans hy)) ?_;clear hK K;have HO:=zH (ho.mono (B':=V.heap.size) (by have:=HX.out.size;have:=HZ.out;omega));clear ho;(try replace HBK:=zH ((hy.block (aA HBK.out)).trans HBK.out));replace HX:=zH (HX.out.trans hy);clear hy) | (go_simp;refine hK _ _ (dU (HX.out.alloc _)) ?_;clear hK K;have hy:=(AD wN).alloc (.cells #[.int .i64 0,.int .i64 0,.int .i64 0,.int .i64 0,.bool false,.slice none 0 0,.int .i64 0,.slice none 0 0,.slice none 0 0,.slice none 0 0] 34);have HBK:=zH (aR wN #[.int .i64 0,.int .i64 0,.int .i64 0,.int .i64 0,.bool false,.slice none 0 0,.int .i64 0,.slice none 0 0,.slice none 0 0,.slice none 0 0] 34 _ rfl);have HWX:Hid (W.heap.size≤wN.heap.size):=zH HX.out.size;(try replace HO:=zH (HO.out.ext hy));replace HX:=zH (HX.out.trans hy);clear hy;generalize wN.alloc (.cells #[.int .i64 0,.int .i64 0,.int .i64 0,.int .i64 0,.bool false,.slice none 0 0,.int .i64 0,.slice none 0 0,.slice none 0 0,.slice none 0 0] 34)=wM at*;generalize wN.heap.size=X at*;rename World=>wN) | (go_simp;refine hK _ _ (dU HX.out) ?_;clear hK K)))
  all_goals
   refine ke ?_
   try simp only [aI,List.map_cons,List.map_nil,List.getD_cons_zero,List.getD_cons_succ]
   have gX:=fun i=>(aB HBK.out).1 i
   have fX:=fun i=>(aB HBK.out).2 i
   go_wp2_with fail
   exact Behind.mk ⟨_,zH (zx HO.out HBK.out dM _ _ _ _ _ _ _ _ _ _),X,zH (zy HBK.out _ _ _ _ _ _ _ _ _ _),zH (wS HX.out HWX.out _ _ _ _ _ _ _ _ _ _),HWX,rfl⟩
 intro a' w3 hbeh
 obtain ⟨A,ho,X,hb,hx,hX,rfl⟩:=hbeh.out
 clear hbeh hu gS
 replace hx:=hx.out
 have HO:=cK ho.out
 have hK:=aP hb.out
 have HVX:Hid (V.heap.size≤X):=zH (Nat.le_trans HXV.out.size hX.out)
 have HSX:Hid (V.heap.size≠X):=zH (by have:=aA hS.here;have:=hX.out;omega)
 have HRX:Hid (R≠X):=zH (by have:=aA hR.here;have:=hX.out;omega)
 (replace hS:=hS.re hx;replace hR:=hR.re hx)
 replace HXV:=zH (HXV.out.trans hx)
 clear ho hb hx hX
 have gS:=hS.cells
 ((first | refine aM (W:=w3) ?_ | refine aT (W:=w3) ?_);intro uq;(try go_wp2_with fail))
 (refine (mw HLA.out HLS.out _).mono ?_;rintro e wq ⟨rfl,hx⟩;replace hx:=AF (a:=w3) zE hx;obtain ⟨uq,rfl⟩:∃u:ExtOf w3,wq=u.1:=⟨⟨wq,hx⟩,rfl⟩;clear hx;go_wp2_with fail)
 have hY:=aG uq.1 #[.int .i64 la,.int .i64 ls] 63 _ rfl
 have hyx:=uq.2.alloc (.cells #[.int .i64 la,.int .i64 ls] 63)
 (replace hS:=hS.re hyx;replace hR:=hR.re hyx;replace hK:=hK.re hyx;replace HO:=HO.re hyx)
 replace HXV:=zH (HXV.out.trans hyx)
 clear hyx gS
 generalize uq.1.alloc (.cells #[.int .i64 la,.int .i64 ls] 63)=w4 at*
 generalize uq.1.heap.size=Y at*
 have gS:=hS.cells
 have gY:=hY.cells
 have gK:=hK.cells
 have fK:=hK.frees
 have lK:=hK.lt
 have HV4:Hid (V.heap.size≤w4.heap.size):=zH HXV.out.size
 cases mb
 ·((first | refine aM (W:=w4) ?_ | refine aT (W:=w4) ?_);intro uq;(try go_wp2_with fail))
  (refine (oc la ls false HMAY.out _).mono ?_;rintro e wq ⟨rfl,hx⟩;replace hx:=AF (a:=w4) zE hx;obtain ⟨uq,rfl⟩:∃u:ExtOf w4,wq=u.1:=⟨⟨wq,hx⟩,rfl⟩;clear hx;go_wp2_with fail)
  clear gS gY gK fK lK
  (refine (po m HM1.out.1 HM1.out.2 _).mono ?_;rintro e w6 ⟨rfl,ho2,hx⟩;replace hx:=AF (a:=w4) zE hx;replace hR:=hR.re hx;replace hK:=hK.re hx;replace HO:=HO.re hx)
  replace HXV:=zH (HXV.out.trans hx)
  have HO2:=cK (ho2.mono (B':=V.heap.size) (by have:=HV4.out;have:=uq.2.size;omega))
  clear ho2 hx
  generalize uq.1.heap.size=G at*
  have gR:=hR.cells
  have fR:=hR.frees
  have lR:=hR.lt
  have gK:=hK.cells
  have fK:=hK.frees
  have lK:=hK.lt
  have hq:=HRX.out
  ((first | refine aM (W:=w6) ?_ | refine aT (W:=w6) ?_);intro uq;(try go_wp2_with fail))
  ((try simp only [Exit.inBlock,Exit.then]);refine bodyPost_ret (v:= .tuple #[.agg #[.int .i64 c0,.int .i64 c1,.int .i64 m,.int .i64 c3,.bool false,.slice A n n,.int .i64 0,.slice none 0 0,.slice none 0 0,.slice (some ⟨G,0,none⟩) m m],.int .i64 0]) (by simp only [results,Tryz.results39];go_simp) rfl ?_)
  have o1:=HO.at uq.2
  have o2:=HO2.at uq.2
  have x1:=HXV.out.trans uq.2
  have bk:=hK.at uq.2
  have br:=hR.at uq.2
  refine ⟨⟨c0,c1,m,c3,false,A,List.replicate n 0,n,0,none,[],0,none,[],0,some ⟨G,0,none⟩,List.replicate m (false,0,0),m⟩,?_,⟨?_,AM _ _ _ _ _,AM _ _ _ _ _,?_⟩,?_,?_⟩
  ·rw [HNW.out.2];simp
  ·have n1:=(o1.ne_block bk dM).symm
   have n2:=(o1.ne_block br dM).symm
   simp only [List.length_replicate]
   repeat (first | with_reducible exact o1 | with_reducible refine AT ?_ n1 | with_reducible refine AT ?_ n2)
  ·have n1:=(o2.ne_block bk dM).symm
   have n2:=(o2.ne_block br dM).symm
   simp only [List.length_replicate]
   repeat (first | with_reducible exact o2 | with_reducible refine AT ?_ n1 | with_reducible refine AT ?_ n2)
  ·rw [HNW.out.1,HFR.out]
   have:=HMB.out
   simp [eqvS]at this⊢
   simp [this]
  ·have n1:=HVX.out
   have n2:=HVR.out
   repeat (first | with_reducible exact x1 | with_reducible refine AX ?_ n1 _ | with_reducible refine AX ?_ n2 _)
 ·((first | refine aM (W:=w4) ?_ | refine aT (W:=w4) ?_);intro uq;(try go_wp2_with fail))
  refine (oc la ls true HMAY.out _).mono ?_
  rintro e wq ⟨rfl,hx⟩
  replace hx:=uq.2.trans hx
  obtain ⟨uq,rfl⟩:∃u:ExtOf w4,wq=u.1:=⟨⟨wq,hx⟩,rfl⟩
  clear hx
  have hs5:((uq.1.setCell ⟨X,8,none⟩ (.slice (some ⟨uq.1.heap.size,0,none⟩) 1 1)).alloc (.cells #[.int .i64 la,.int .i64 ls] 63)).heap[V.heap.size]?=some (.cells #[.int .i64 c0,.int .i64 c1,.int .i64 m,.int .i64 c3] 23 (0,0)):=b8 (bM (hS.at uq.2) _ HSX.out)
  have c1:=(aB hs5).1
  go_wp2_with fail
  clear c1 hs5 gS gY gK fK lK
  have hk5:((uq.1.setCell ⟨X,8,none⟩ (.slice (some ⟨uq.1.heap.size,0,none⟩) 1 1)).alloc (.cells #[.int .i64 la,.int .i64 ls] 63)).heap[X]?=some (.cells #[.int .i64 c0,.int .i64 c1,.int .i64 m,.int .i64 c3,.bool false,.slice A n n,.int .i64 0,.slice none 0 0,.slice (some ⟨uq.1.heap.size,0,none⟩) 1 1,.slice none 0 0] 34 (0,0)):=b8 (aL (hK.at uq.2) _)
  have hr5:((uq.1.setCell ⟨X,8,none⟩ (.slice (some ⟨uq.1.heap.size,0,none⟩) 1 1)).alloc (.cells #[.int .i64 la,.int .i64 ls] 63)).heap[R]?=some (.cells #[.int .i64 0,.int .i64 0,.int .i64 0,.int .i64 0,.bool false,.slice none 0 0,.int .i64 0,.slice none 0 0,.slice none 0 0,.slice none 0 0] 34 (0,0)):=b8 (bM (hR.at uq.2) _ HRX.out)
  have ho5:=((HO.at uq.2).setOther (i:=8) (u:= .slice (some ⟨uq.1.heap.size,0,none⟩) 1 1) (hK.at uq.2) dM).ext ((AD _).alloc (.cells #[.int .i64 la,.int .i64 ls] 63))
  have hf5:Own 63 2 ac ((uq.1.setCell ⟨X,8,none⟩ (.slice (some ⟨uq.1.heap.size,0,none⟩) 1 1)).alloc (.cells #[.int .i64 la,.int .i64 ls] 63)) V.heap.size (.slice (some ⟨uq.1.heap.size,0,none⟩) 1 1) [(la,ls)]:=Own.lit aE [(la,ls)] _ rfl 1 rfl (by have:=HV4.out;have:=uq.2.size;simp;omega) (by simp [maxLen]) _ sM
  have hx5:Ext V ((uq.1.setCell ⟨X,8,none⟩ (.slice (some ⟨uq.1.heap.size,0,none⟩) 1 1)).alloc (.cells #[.int .i64 la,.int .i64 ls] 63)):=((HXV.out.trans uq.2).setCell HVX.out _).alloc _
  generalize (uq.1.setCell ⟨X,8,none⟩ (.slice (some ⟨uq.1.heap.size,0,none⟩) 1 1)).alloc (.cells #[.int .i64 la,.int .i64 ls] 63)=w5 at*
  generalize uq.1.heap.size=Fr at*
  clear hS hR hK HO HXV
  have hK:=aP hk5
  have hR:=aP hr5
  have HO:=cK ho5
  have HO3:=cK hf5
  have HXV:=zH hx5
  clear hk5 hr5 ho5 hf5 hx5
  have HV5:Hid (V.heap.size≤w5.heap.size):=zH HXV.out.size
  ((first | refine aM (W:=w5) ?_ | refine aT (W:=w5) ?_);intro uq;(try go_wp2_with fail))
  (refine (po m HM1.out.1 HM1.out.2 _).mono ?_;rintro e w6 ⟨rfl,ho2,hx⟩;replace hx:=AF (a:=w5) zE hx;replace hR:=hR.re hx;replace hK:=hK.re hx;replace HO:=HO.re hx;replace HO3:=HO3.re hx)
  replace HXV:=zH (HXV.out.trans hx)
  have HO2:=cK (ho2.mono (B':=V.heap.size) (by have:=HV5.out;have:=uq.2.size;omega))
  clear ho2 hx
  generalize uq.1.heap.size=G at*
  have gR:=hR.cells
  have fR:=hR.frees
  have lR:=hR.lt
  have gK:=hK.cells
  have fK:=hK.frees
  have lK:=hK.lt
  have hq:=HRX.out
  ((first | refine aM (W:=w6) ?_ | refine aT (W:=w6) ?_);intro uq;(try go_wp2_with fail))
  ((try simp only [Exit.inBlock,Exit.then]);refine bodyPost_ret (v:= .tuple #[.agg #[.int .i64 c0,.int .i64 c1,.int .i64 m,.int .i64 c3,.bool false,.slice A n n,.int .i64 0,.slice none 0 0,.slice (some ⟨Fr,0,none⟩) 1 1,.slice (some ⟨G,0,none⟩) m m],.int .i64 0]) (by simp only [results,Tryz.results39];go_simp) rfl ?_)
  have o1:=HO.at uq.2
  have o2:=HO2.at uq.2
  have x1:=HXV.out.trans uq.2
  have bk:=hK.at uq.2
  have br:=hR.at uq.2
  refine ⟨⟨c0,c1,m,c3,false,A,List.replicate n 0,n,0,none,[],0,some ⟨Fr,0,none⟩,[(la,ls)],1,some ⟨G,0,none⟩,List.replicate m (false,0,0),m⟩,?_,⟨?_,AM _ _ _ _ _,?_,?_⟩,?_,?_⟩
  ·rw [HNW.out.2];simp
  ·have n1:=(o1.ne_block bk dM).symm
   have n2:=(o1.ne_block br dM).symm
   simp only [List.length_replicate]
   repeat (first | with_reducible exact o1 | with_reducible refine AT ?_ n1 | with_reducible refine AT ?_ n2)
  ·have o3:=HO3.at uq.2
   simp only [List.length_cons,List.length_nil,Nat.zero_add]
   have n1:=(o3.ne_block bk dM).symm
   have n2:=(o3.ne_block br dM).symm
   repeat (first | with_reducible exact o3 | with_reducible refine AT ?_ n1 | with_reducible refine AT ?_ n2)
  ·have n1:=(o2.ne_block bk dM).symm
   have n2:=(o2.ne_block br dM).symm
   simp only [List.length_replicate]
   repeat (first | with_reducible exact o2 | with_reducible refine AT ?_ n1 | with_reducible refine AT ?_ n2)
  ·rw [HNW.out.1,HFR.out]
   have:=HMB.out
   simp [eqvS]at this⊢
   simp [this]
  ·have n1:=HVX.out
   have n2:=HVR.out
   repeat (first | with_reducible exact x1 | with_reducible refine AX ?_ n1 _ | with_reducible refine AX ?_ n2 _)
theorem uP (c0 c1 c2 c3:Int) (V:World):Calls Tryz.prog 39 #[.agg #[.int .i64 (c0),.int .i64 (c1),.int .i64 (c2),.int .i64 (c3)]] V (ru V (newS c0 c1 c2 c3) (newE c0 c1 c2 c3)):=by
 by_cases hb:cfgB c0 c1 c2 c3=true
 ·exact uO c0 c1 c2 c3 hb V
 ·exact wT c0 c1 c2 c3 (by simpa using hb) V
def og (V:World) (zs:List Int) (x er:Int) (e:Ending) (w':World):Prop:=∃A1 cap1,e= .returned (.tuple #[.slice A1 zs.length cap1,.int .i64 x,.int .i64 er])∧Own 3 1 intC w' V.heap.size (.slice A1 zs.length cap1) zs∧Ext V w'
theorem oh (A:Option Addr) (cap:Nat) (ws:List Int) (a s top:Int) (V:World) (hl:WordsAt V A ws) (hlen:ws.length≤98304) (hbd:∀z∈ws,0≤z∧z < 18446744073709551616):
  Calls Tryz.prog 116 #[.slice A ws.length cap,.agg #[.int .i64 (a),.int .i64 (s)],.int .i64 top] V (og V (bn (some ws) a s top) (cj (some ws) a s top) (bN (some ws) a s top)):=by
 have HL:=zH hl
 have HLN:=zH hlen
 have HBD:=zH hbd
 have hb5:=aR V #[.int .i64 a,.int .i64 s] 63 _ rfl
 have HX:=zH ((AD V).alloc (.cells #[.int .i64 a,.int .i64 s] 63))
 have HB5:=zH hb5
 obtain ⟨b,hb⟩:∃b,mayB a s=b:=⟨_,rfl⟩
 have HB:=zH hb
 clear hl hlen hbd hb5 hb
 go_enter Tryz.func116,Tryz.ntmps116
 go_wp2_with fail
 generalize V.alloc (.cells #[.int .i64 a,.int .i64 s] 63)=w4 at*
 refine (lO a s b HB.out w4).mono ?_
 rintro e w1 ⟨rfl,hx⟩
 have HX1:=zH (HX.out.trans hx)
 have HB6:=zH ((hx.block (aA HB5.out)).trans HB5.out)
 clear hx HX HB5
 have g0:w1.cell? ⟨V.heap.size,0,none⟩=some (.int .i64 a):=by simp [World.cell?,HB6.out]
 have g1:w1.cell? ⟨V.heap.size,1,none⟩=some (.int .i64 s):=by simp [World.cell?,HB6.out]
 by_cases hk:wkB a s top=true
 rotate_left
 ·have hk':wkB a s top=false:=by simpa using hk
  have h1:bN (some ws) a s top=1:=by rw [bN,hk'];rfl
  have HR:Hid (bn (some ws) a s top= []∧bN (some ws) a s top=1∧cj (some ws) a s top=0):=zH ⟨by rw [bn,h1];rfl,h1,by rw [cj,hk'];rfl⟩
  have HRET:Hid (∀w',Ext V w'→og V (bn (some ws) a s top) (cj (some ws) a s top) (bN (some ws) a s top) (.returned (.tuple #[.slice none 0 0,.int .i64 0,.int .i64 1])) w'):=zH (fun w' hw=>by
   rw [HR.out.1,HR.out.2.1,HR.out.2.2]
   exact ⟨none,0,rfl,AM _ _ _ _ _,hw⟩)
  cases b
  ·clear hk hk' h1
   go_wp2_with fail
   ((try simp only [Exit.inBlock,Exit.then]);refine bodyPost_ret (v:= .tuple #[.slice none 0 0,.int .i64 0,.int .i64 1]) (by simp only [results,Tryz.results116];go_simp) rfl ?_)
   exact HRET.out _ HX1.out
  ·obtain ⟨m1,m2,m3,m4⟩:=au HB.out
   have hw:wrap64 (a+s)=a+s:=IntWalk.wrap64_in _ ⟨by omega,by omega⟩
   by_cases h2:top < a
   ·have d1:decide (top < a)=true:=by simpa using h2
    clear hk hk' h1
    go_wp2_with fail
    ((try simp only [Exit.inBlock,Exit.then]);refine bodyPost_ret (v:= .tuple #[.slice none 0 0,.int .i64 0,.int .i64 1]) (by simp only [results,Tryz.results116];go_simp) rfl ?_)
    exact HRET.out _ HX1.out
   ·have d1:decide (top < a)=false:=by simpa using h2
    have d2:decide (a+s < top)=true:=by
     have:=HB.out
     simp only [wkB,this,Bool.true_and,decide_eq_false_iff_not]at hk'
     simp only [decide_eq_true_eq]
     omega
    clear hk hk' h1
    go_wp2_with fail
    ((try simp only [Exit.inBlock,Exit.then]);refine bodyPost_ret (v:= .tuple #[.slice none 0 0,.int .i64 0,.int .i64 1]) (by simp only [results,Tryz.results116];go_simp) rfl ?_)
    exact HRET.out _ HX1.out
 obtain rfl:b=true:=by
  have:=HB.out
  unfold wkB at hk
  rw [this]at hk
  cases b
  ·simp at hk
  ·rfl
 obtain ⟨m1,m2,m3,m4⟩:=au HB.out
 have hw:wrap64 (a+s)=a+s:=IntWalk.wrap64_in _ ⟨by omega,by omega⟩
 obtain ⟨t1,t2⟩:a≤top∧top≤a+s:=by simpa [wkB,HB.out]using hk
 have d1:decide (top < a)=false:=by simp;omega
 have d2:decide (a+s < top)=false:=by simp;omega
 have HK:=zH hk
 clear hk
 have HSA:Hid (cj (some ws) a s top=(b9 (some ws) top a).at_∧bN (some ws) a s top=(b9 (some ws) top a).e):=zH (by rw [cj,bN,HK.out];exact ⟨rfl,rfl⟩)
 have HLS:Hid (bn (some ws) a s top=if (b9 (some ws) top a).e=0 then bT (ax (some ws) top a)else []):=zH (by rw [bn,HSA.out.2])
 go_wp2_with fail
 go_loopw [9,10,11,12,13] (fun v j _ _ _ wr=>∃(A1:Option Addr) (cap1 m:Nat) (out:List Int) (i:Int),v= .slice A1 m cap1∧j= .int .i64 i∧Hid (out.length=m)∧Hid (Own 3 1 intC wr V.heap.size (.slice A1 m cap1) out)∧Hid (MetW (some ws) a top out i)∧Hid (Ext V wr)) (fun _ j _ _ _ _=>(top - intOf j).toNat)
 case atStart=>exact ⟨none,0,0,[],a,rfl,rfl,zH rfl,zH (AM _ _ _ _ _),zH (MetW.start t1),HX1⟩
 case round=>
  obtain ⟨A1,cap1,m,out,i,rfl,rfl,HM,HO,HMW,HXR⟩:=hrel
  have hib:a≤i∧i≤top∧(m:Int)≤i - a:=by
   have h:=HMW.out
   have h2:=HM.out
   exact ⟨h.2.2.1,h.2.2.2.1,by rw [←h2];exact h.2.2.2.2⟩
  obtain ⟨hi1,hi2,hi3⟩:=hib
  clear g0 g1 hw d1 d2 HX1 HB6
  by_cases hlt:i < top
  rotate_left
  ·have d3:decide (i < top)=false:=by simpa using hlt
   obtain ⟨e1,e2,rfl⟩:=HMW.out.stop hlt
   have HRET:Hid (og V (bn (some ws) a s i) (cj (some ws) a s i) (bN (some ws) a s i) (.returned (.tuple #[.slice A1 m cap1,.int .i64 i,.int .i64 0])) wr):=zH (by
    rw [HLS.out,HSA.out.1,HSA.out.2,e2,e1]
    obtain ⟨A2,cap2,hv,hrow, -⟩:=HO.out.form aO dM
    injection hv with h1 h2 h3
    subst h1 h3
    exact ⟨A1,cap1,by rw [if_pos rfl,HM.out],by rw [if_pos rfl,HM.out];exact HO.out,HXR.out⟩)
   clear e1 e2 hlt
   go_wp2_with fail
   ((try simp only [Exit.inBlock,Exit.then]);refine bodyPost_ret (v:= .tuple #[.slice A1 m cap1,.int .i64 i,.int .i64 0]) (by simp only [results,Tryz.results116];go_simp) rfl ?_)
   exact HRET.out
  have d3:decide (i < top)=true:=by simpa using hlt
  obtain ⟨er,her⟩:∃e,aU (some ws) i=e:=⟨_,rfl⟩
  obtain ⟨h,hh⟩:∃h,aK (some ws) i=h:=⟨_,rfl⟩
  obtain ⟨n,hn⟩:∃n,av h=n:=⟨_,rfl⟩
  have HER:=zH her
  have HH:=zH hh
  have HN:=zH hn
  have hnb:=lM h
  rw [hn]at hnb
  have HWK:Hid (wkE (some ws) top i=if er=0 then (if top - i < n then 2 else 0)else er):=zH (by rw [wkE,her,hh,hn])
  have HLT:=zH hlt
  have HEE:Hid (∀x,wkE (some ws) top i=x→x≠0→∀w',Ext V w'→og V (bn (some ws) a s top) (cj (some ws) a s top) (bN (some ws) a s top) (.returned (.tuple #[.slice none 0 0,.int .i64 i,.int .i64 x])) w'):=zH (fun x hx h0 w' hw'=>by
   have e:=HMW.out.err HLT.out (by rw [hx];exact h0)
   rw [HLS.out,HSA.out.1,HSA.out.2,e,hx,if_neg h0]
   exact ⟨none,0,rfl,AM _ _ _ _ _,hw'⟩)
  clear her hh hn hlt
  go_wp2_with fail
  have Z:=dH A cap ws i er h HER.out HH.out wr (HL.out.ext HXR.out) HLN.out HBD.out ⟨by omega,by omega⟩
  refine Z.mono ?_
  clear Z
  rintro e w2 ⟨rfl,hx⟩
  have HX2:=zH (HXR.out.trans hx)
  have HO2:=zH (HO.out.ext hx)
  clear hx HXR HO
  by_cases h0:er=0
  rotate_left
  ·have hne:(er !=0)=true:=by simpa using h0
   have HR:=zH (HEE.out er (HWK.out.trans (if_neg h0)) h0)
   clear h0
   go_wp2_with fail
   ((try simp only [Exit.inBlock,Exit.then]);refine bodyPost_ret (v:= .tuple #[.slice none 0 0,.int .i64 i,.int .i64 er]) (by simp only [results,Tryz.results116];go_simp) rfl ?_)
   exact HR.out _ (HX2.out.alloc _)
  subst h0
  have HW2:Hid (wkE (some ws) top i=if top - i < n then 2 else 0):=zH (HWK.out.trans (if_pos rfl))
  have HBH:=zH (aR w2 #[.int .i64 h.k,.int .i64 h.f,.int .i64 h.r,.bool h.m,.int .i64 h.c] 85 _ rfl)
  have HX3:=zH (HX2.out.alloc (.cells #[.int .i64 h.k,.int .i64 h.f,.int .i64 h.r,.bool h.m,.int .i64 h.c] 85))
  have HO3:=zH (HO2.out.ext ((AD w2).alloc (.cells #[.int .i64 h.k,.int .i64 h.f,.int .i64 h.r,.bool h.m,.int .i64 h.c] 85)))
  clear HWK HX2 HO2
  go_wp2_with fail
  generalize w2.alloc (.cells #[.int .i64 h.k,.int .i64 h.f,.int .i64 h.r,.bool h.m,.int .i64 h.c] 85)=w3 at*
  generalize w2.heap.size=X at*
  have Z:=cQ h n HN.out w3
  refine Z.mono ?_
  clear Z
  rintro e w5 ⟨rfl,hx⟩
  have HX5:=zH (HX3.out.trans hx)
  have HO5:=zH (HO3.out.ext hx)
  clear hx HX3 HO3 HBH
  have hw:wrap64 (i+n)=i+n:=IntWalk.wrap64_in _ ⟨by omega,by omega⟩
  by_cases hs:top - i < n
  ·have d5:decide (top < i+n)=true:=by simp;omega
   have HR:=zH (HEE.out 2 (HW2.out.trans (if_pos hs)) dM)
   clear hs
   go_wp2_with fail
   ((try simp only [Exit.inBlock,Exit.then]);refine bodyPost_ret (v:= .tuple #[.slice none 0 0,.int .i64 i,.int .i64 2]) (by simp only [results,Tryz.results116];go_simp) rfl ?_)
   exact HR.out _ HX5.out
  ·have d5:decide (top < i+n)=false:=by simp;omega
   have hle:i+n≤top:=by omega
   have HMG:Hid (MetW (some ws) a top (out++ [i]) (i+n)):=zH (by
    have h1:=HMW.out.go HLT.out (HW2.out.trans (if_neg hs))
    rw [HH.out,HN.out]at h1
    exact h1 hle)
   have hn1:1≤n:=by
    have h1:=HMG.out.2.2.2.2
    have h2:=cX HER.out
    rw [HH.out,HN.out]at h2
    exact h2.1
   have hsz5:=AG HX5.out
   clear hs HEE HW2
   go_wp2_with (at_builtin;refine aH rfl (.tmp 55) (.tmp 57) 38 rfl bj aO rfl (by exact HO5.out) [i] 1 _ rfl (m+1) 1 (by rw [HM.out];rfl) rfl _ rfl (by first | rfl | simp) oM (by simp [maxLen];try omega) (by exact hsz5) ?_;intro A4 cap4 w6 hown4 hgr4 hat4;have HO6:=zH hown4;have HX6:Hid (Ext V w6):=zH (AI HO5.out (Below.alloc HX5.out (by exact hsz5) _) hgr4 (by simp;omega));clear hown4 hgr4 hat4)
   go_roundw
   case rel=>exact ⟨A4,cap4,m+1,out++ [i],i+n,rfl,rfl,zH (by rw [List.length_append,HM.out];rfl),HO6,HMG,HX6⟩
   case measure=>simp [intOf];omega
end Go.Proofs.YtphpppjfogpohaaGreat
