/- Merged by program (merge.py) out of: PkD, PkE. -/
import Derived.Laws.OwnMore
import Derived.Test.YtemmjmplhknemaaMp36
set_option linter.unusedSimpArgs false
set_option linter.unusedVariables false
set_option maxRecDepth 100000
set_option maxHeartbeats 16000000
namespace Go.Proofs.Ytemmjmplhknemaa
open Go.RowKit Go.Shelf
theorem wp_makeBy {o:Oper} {a:Act} {w:World} {K:Act→World→Prop} {Q:Exit→Act→World→Prop} (l:Operand) (hop:o.op=Op.makeSlice 67 l l) (n:Nat) (hl:a.eval l= .int .i64 (n:Int)) (hn:n≤17592186044416)
  (hK:∀w',Own 5 1 byC w' w.heap.size (.slice (some ⟨w.heap.size,0,none⟩) n n) (List.replicate n (0:Int))→Ext w w'→K (a.put o.dst (.slice (some ⟨w.heap.size,0,none⟩) n n)) w'):o.wp Try.prog a w K Q:=by
 obtain ⟨i,hi,hz0,hz1,hz2⟩:=info_parts byInfo0
 obtain ⟨w',hrun,r1,r2⟩:=run_make_full (P:=Try.prog) w w.heap.size 67 5 i (.int .u8 0) 1 Try.underlying67 hi hz0 hz1 .i64 .i64 n (by rw [hz2];omega) (by unfold maxLen;omega) (Nat.le_refl _)
 have hown:Own 5 1 byC w' w.heap.size (.slice (some ⟨w.heap.size,0,none⟩) n n) (List.replicate n (0:Int)):=by
  unfold Own
  have e:(List.replicate n (0:Int)).flatMap byC=(madeCells (Value.int .u8 0).cells (n*1)).toList:=by
   rw [Nat.mul_one,show (Value.int .u8 0).cells= #[Value.int .u8 0]from rfl,toList_madeCells_one]
   clear r1 r2 hl hn hK hrun
   induction n with
   | zero=>rfl
   | succ n ih=>rw [List.replicate_succ,List.flatMap_cons,ih];rfl
  rw [e,List.length_replicate]
  exact r1
 unfold Oper.wp
 simp [execOp,hop,hl,hrun,Result.andThen]
 exact hK _ hown ⟨r2.os,r2.tape,r2.output,r2.size,fun k hk=>r2.block k hk (by simp)⟩
theorem wpList_makeBy {ops:Array Oper} {rest:List Oper} {o:Oper} {a:Act} {w:World} {Q:Exit→Act→World→Prop} (hgd:o.guard=none) (l:Operand) (hop:o.op=Op.makeSlice 67 l l) (n:Nat) (hl:a.eval l= .int .i64 (n:Int)) (hn:n≤17592186044416)
  (h:∀w',Own 5 1 byC w' w.heap.size (.slice (some ⟨w.heap.size,0,none⟩) n n) (List.replicate n (0:Int))→Ext w w'→wpList Try.prog ops Q rest (a.put o.dst (.slice (some ⟨w.heap.size,0,none⟩) n n)) w'):wpList Try.prog ops Q (o::rest) a w:=
 wpList_plain hgd fun _ hK=>wp_makeBy l hop n hl hn fun w' h1 h2=>hK _ _ (h w' h1 h2)
theorem bzL_zero (n:Nat):bzL (List.replicate n 0)=List.replicate n (0:Int):=by
 unfold bzL
 rw [List.map_replicate]
 rfl
theorem take_none {n:Nat} {X:Nat} {s:ByteArray} {bad:Bool} {V:World} (h:RdAt V X s bad) (hs:s.size≤1000000) (hn:s.size < n) (hn2:n≤1000):Calls Try.prog 18 #[.pointer (some ⟨X,0,none⟩),.int .i64 n] V fun e w'=>e= .returned (.string ⟨(List.replicate n (0:UInt8)).toArray⟩)∧Ext (V.setCell ⟨X,1,none⟩ (.bool true)) w':=by
 have k0:=(cells_of h).1
 have f0:=(cells_of h).2
 have l0:=lt_of_heap h
 have e0:(V.setCell ⟨X,1,none⟩ (.bool true)).heap.size=V.heap.size:=by simp
 have HE0:=zH e0
 clear h e0
 go_enter Try.func18,Try.ntmps18
 go_wp2_with (at_make;refine wpList_makeBy rfl (.tmp 16) rfl n rfl (by omega) ?_;intro w1 hown hx;have HX:=zH hx;rw [←bzL_zero,HE0.out]at hown;have hcv:=own_str (by simp) hown (by intro e;have:=congrArg List.length e;simp at this;omega);clear hown hx)
 go_ret
 exact ⟨rfl,HX.out⟩
theorem truth_some {X:Nat} {s:ByteArray} {bad:Bool} {V:World} {c:UInt8} {r:List UInt8} (h:RdAt V X s bad) (hs:s.size≤1000000) (hn:s.data.toList=c::r):Calls Try.prog 20 #[.pointer (some ⟨X,0,none⟩)] V fun e w'=>e= .returned (.bool (c !=0))∧w'=V.setCell ⟨X,0,none⟩ (.string ⟨r.toArray⟩):=by
 have hl:1≤s.size:=by rw [←ba_len,hn];simp
 have Z:=take_some h hs hl
 rw [hn]at Z
 have HZ:=zH Z
 have hb:((c.toNat:Int) !=0)=(c !=0):=by
  rw [Bool.eq_iff_iff,bne_iff_ne,bne_iff_ne]
  constructor
  ·intro h1 h2
   subst h2
   exact h1 rfl
  ·intro h1 h2
   exact h1 (UInt8.toNat_inj.1 (by show c.toNat=0;omega))
 obtain ⟨b,hcb⟩:∃b,(c !=0)=b:=⟨_,rfl⟩
 rw [hcb]at hb⊢
 clear Z h hn hl
 go_enter Try.func20,Try.ntmps20
 go_wp2_with fail
 refine HZ.out.mono ?_
 rintro e w1 ⟨rfl,rfl⟩
 cases b
 all_goals
  go_wp2_with fail
  go_ret
  exact ⟨(show Ending.returned (Value.bool ((c.toNat:Int) !=0))=_ from by rw [hb]),rfl⟩
theorem truth_none {X:Nat} {s:ByteArray} {bad:Bool} {V:World} (h:RdAt V X s bad) (hn:s.size=0):Calls Try.prog 20 #[.pointer (some ⟨X,0,none⟩)] V fun e w'=>e= .returned (.bool false)∧Ext (V.setCell ⟨X,1,none⟩ (.bool true)) w':=by
 have HZ:=zH (take_none (n:=1) h (by omega) (by omega) (by omega))
 clear h hn
 go_enter Try.func20,Try.ntmps20
 go_wp2_with fail
 refine HZ.out.mono ?_
 rintro e w1 ⟨rfl,hx⟩
 have HX:=zH hx
 clear hx
 go_wp2_with fail
 go_ret
 exact ⟨rfl,HX.out⟩
end Go.Proofs.Ytemmjmplhknemaa
