/- Merged by program (merge.py) out of: MapB. -/
import Derived.Maps.RangeWalk
import Derived.Test.YtemmjmplhknemaaMp20
import Derived.Test.YtemmjmplhknemaaMp7
set_option linter.unusedSimpArgs false
set_option linter.unusedVariables false
set_option maxRecDepth 100000
set_option maxHeartbeats 16000000
namespace Go.Proofs.Ytemmjmplhknemaa
open Go.RowKit Go.Shelf Go.Maps
theorem zeroBool (w:World):(zeroValue 4).run Try.prog w= .ok (.bool false) w:=by kernel_rfl
theorem boolElem_inv {v:Value} {z:DataW Unit×List MemPlace} (h:plainElem Try.prog 4 v=some z):∃c,v= .bool c∧z=(.lit (.bool c),[]):=by
 unfold plainElem at h
 rw [Try.underlying4]at h
 cases v <;>simp at h
 exact ⟨_,rfl,h.symm⟩
def SetD (D:DataW Unit) (S:Int→Bool):Prop:=IsMap D∧∀x,Maps.has D (keyI x)=S x∧D.atKey (keyI x) (.lit (.bool false))= .lit (.bool (S x))
theorem SetD.put {D:DataW Unit} {S:Int→Bool} (h:SetD D S) (k:Int):SetD (D.put (keyI k) (.lit (.bool true))) (fun y=>S y || y==k):=by
 refine ⟨h.1.put _ _,fun y=> ?_⟩
 by_cases hy:y=k
 ·subst hy
  simp only [BEq.rfl,Bool.or_true]
  exact ⟨has_put_same h.1 (show WideAt.IsKeyLit (keyI y)from trivial) _,atKey_put_same h.1 (show WideAt.IsKeyLit (keyI y)from trivial) _ _⟩
 ·have h0:(y==k)=false:=by rw [beq_eq_false_iff_ne];exact hy
  simp only [h0,Bool.or_false]
  rw [has_put_other (keyI_ne hy),atKey_put_other (keyI_ne hy)]
  exact h.2 y
def SetI (w:World) (b n:Nat) (S:Int→Bool):Prop:=∃D:DataW Unit,w.ownsMap Try.prog 3 (plainElem Try.prog 4) b n D∧SetD D S
def RngI (w:World) (b r n:Nat) (S left:Int→Bool) (cnt:Nat):Prop:=∃(D:DataW Unit) (lf:Lit→Bool),w.ranges Try.prog 3 (plainElem Try.prog 4) b r n D lf cnt∧SetD D S∧∀x,lf (keyI x)=left x
section
variable {w w' : World} {b r n cnt : Nat} {S left : Int → Bool}
theorem SetI.made (w:World):SetI (w.alloc (.map #[] 0)) w.heap.size 0 (fun _=>false):=⟨.map [],World.ownsMap_made _ _ _ _,isMap_empty,fun x=>⟨rfl,rfl⟩⟩
theorem SetI.kept {row:Option Nat} (h:SetI w b n S) (hg:w.grownBy w' row) (hne:some b≠row):SetI w' b n S:=by
 obtain ⟨D,h1,h2⟩:=h;exact ⟨D,h1.kept hg hne,h2⟩
theorem SetI.ext (h:SetI w b n S) (hx:Ext w w'):SetI w' b n S:=h.kept hx.grown (by simp)
theorem SetI.look (h:SetI w b n S) {x:Int} (hk:(Lit.int .i64 x).wf=true):(Instr.lookup 84 (.map (some b)) (.int .i64 x) false).run Try.prog w= .ok (.bool (S x)) w:=by
 obtain ⟨D,h1,h2⟩:=h
 obtain ⟨v,ps,hrun,hv⟩:=h1.lookup intKeyed Try.underlying84 (zeroBool w) (plainElem_bool Try.underlying4 false) (key:= .int .i64 x) (kl:=keyI x) (keyOf_int_mk Try.underlying3 hk)
 obtain ⟨c,rfl,hc⟩:=boolElem_inv hv
 rw [(h2.2 x).2]at hc
 injection hc with hc
 injection hc with hc
 injection hc with hc
 rw [hc];exact hrun
theorem RngI.ext (h:RngI w b r n S left cnt) (hx:Ext w w'):RngI w' b r n S left cnt:=by
 obtain ⟨D,lf,h1,h2⟩:=h;exact ⟨D,lf,h1.kept hx.grown (by simp) (by simp),h2⟩
theorem RngI.pers (h:RngI w b r n S left cnt):Pers w (fun w=>RngI w b r n S left cnt):=fun _ k=>h.ext k
theorem RngI.left_eq (h:RngI w b r n S left cnt):w.rangeLeft b r=cnt:=by obtain ⟨D,lf,h1,_⟩:=h;exact h1.left_eq
variable {ops : Array Oper} {rest : List Oper} {o : Oper} {a : Act} {Q : Exit → Act → World → Prop}
theorem wpList_set_put (hg:o.guard=none) (m x v:Operand) (hop:o.op=Op.mapUpdate 84 m x v) (h:SetI w b n S) (hm:a.eval m= .map (some b)) (hn:n < maxLen) (k:Int) (hx:a.eval x= .int .i64 k) (hv:a.eval v= .bool true) (hk:(Lit.int .i64 k).wf=true)
  (hK:∀w',SetI w' b (n+1) (fun y=>S y || y==k)→w.grownBy w' (some b)→wpList Try.prog ops Q rest (a.put o.dst undef) w'):wpList Try.prog ops Q (o::rest) a w:=by
 obtain ⟨D,h1,h2⟩:=h
 refine wpList_mapUpdate_own w hg m x v 84 hop 3 4 intKeyed Try.underlying84 (plainElem Try.prog 4) b n D hm h1 hn (.int .i64 k) (.bool true) (keyI k) hx hv (keyOf_int_mk Try.underlying3 hk) (.lit (.bool true)) [] (plainElem_bool Try.underlying4 true) ?_
 intro w' ho hgr
 exact hK w' ⟨_,ho,h2.put k⟩ hgr
theorem wpList_set_range (hg:o.guard=none) (m:Operand) (hop:o.op=Op.range 84 m) (h:SetI w b n S) (hm:a.eval m= .map (some b))
  (hK:∀w' cnt,RngI w' b w.heap.size n S S cnt→Ext w w'→wpList Try.prog ops Q rest (a.put o.dst (.pointer (some ⟨w.heap.size,0,none⟩))) w'):wpList Try.prog ops Q (o::rest) a w:=by
 obtain ⟨D,h1,h2⟩:=h
 refine wpList_range_own w hg m 84 hop 3 4 intKeyed Try.underlying84 _ b n D hm h1 ?_
 intro w' h3 h4 h5
 exact hK w' _ ⟨D,_,h3,h2,fun x=>(h2.2 x).1⟩ ⟨h4.os,h4.tape,h4.output,h4.size,fun k hk=>h4.block k hk (by simp)⟩
theorem wpList_set_next (hg:o.guard=none) (it:Operand) (hop:o.op=Op.next it false) (hit:a.eval it= .pointer (some ⟨r,0,none⟩)) (h:RngI w b r n S left cnt)
  (hDone:(∀x,left x=false)→wpList Try.prog ops Q rest (a.put o.dst (.tuple #[.bool false])) w)
  (hMore:∀(x:Int) (w':World) (cnt':Nat),(Lit.int .i64 x).wf=true→left x=true→RngI w' b r n S (fun z=>left z && !(z==x)) cnt'→cnt' < cnt→w.grownBy w' (some r)→w'.heap.size=w.heap.size→
   (Instr.entry (.pointer (some ⟨r,0,none⟩))).run Try.prog w'= .ok (.tuple #[.int .i64 x,.bool (S x)]) w'→wpList Try.prog ops Q rest (a.put o.dst (.tuple #[.bool true,.int .i64 x,.bool (S x)])) w'):wpList Try.prog ops Q (o::rest) a w:=by
 obtain ⟨D,lf,h1,h2,h3⟩:=h
 refine wpList_next_ranges w hg it hop 3 intKeyed (plainElem Try.prog 4) (Value.int .i64) Value.bool (fun key kl hkey=>by obtain ⟨x,rfl,_⟩:=Maps.keyOf_int_inv Try.underlying3 hkey;exact ⟨x,rfl⟩) (fun v y hv=>by obtain ⟨c,rfl,_⟩:=boolElem_inv hv;exact ⟨c,rfl⟩)
  b r n D lf cnt hit h1 (fun _ hl=>hDone fun x=>by rw [←h3 x];exact hl _) (fun x c kl y w' cnt' hkey hlk hv hat hrg hlt hgr hsz hen=> ?_)
 obtain ⟨x',ex,rfl,hwx⟩:=Maps.keyOf_int_inv Try.underlying3 hkey
 cases ex
 obtain ⟨c',ec,rfl⟩:=boolElem_inv hv
 cases ec
 have h4:=hat (.lit (.bool false))
 rw [show (Lit.int IntKind.i64 x)=keyI x from rfl,(h2.2 x).2]at h4
 injection h4 with h4
 injection h4 with h4
 subst h4
 exact hMore x w' cnt' hwx (by rw [←h3 x];exact hlk) ⟨D,_,hrg,h2,fun z=>by
  show (lf (keyI z) && !(keyI z).sameKey (keyI x))=_
  rw [h3 z,keyI_same]⟩ hlt hgr hsz hen
end
end Go.Proofs.Ytemmjmplhknemaa
