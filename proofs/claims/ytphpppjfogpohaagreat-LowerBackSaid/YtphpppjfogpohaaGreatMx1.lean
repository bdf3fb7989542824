/- Merged by program (merge.py) out of: Base, SpanA, Ref03A, SpanB, LayoutA, LayoutB. -/
import Derived.Test.YtphpppjfogpohaaGreatRows
import Derived.WalkKit
import Derived.BigQuiet
import Derived.Lib.Hide
import Derived.Deep.RegionHeld3
import Derived.ProofKit
import Derived.OpenShut
import Derived.Lib.SmallJoins
import Derived.ChangeSame
import Derived.Carry
set_option linter.unusedSimpArgs false
set_option linter.unusedVariables false
set_option maxRecDepth 100000
set_option maxHeartbeats 16000000
namespace Go.Proofs.YtphpppjfogpohaaGreat
open Go.RowKit
def Ext (w w':World):Prop:=Below w.heap.size w w'
theorem Ext.refl (w:World):Ext w w:=Below.refl _ _
theorem Ext.trans {a b c:World} (h:Ext a b) (k:Ext b c):Ext a c:=
 Below.trans h (Below.mono k (Below.size h))
theorem Ext.drew {a w:World} (h:Ext a w):Ext a w.drew:=Below.drew h
theorem Ext.alloc {a w:World} (h:Ext a w) (o:Obj):Ext a (w.alloc o):=Below.alloc h (Below.size h) o
theorem Ext.cell {w w':World} (h:Ext w w') {p:Addr} {v:Value} (hc:w.cell? p=some v):w'.cell? p=some v:=by
 have hb:p.block < w.heap.size:=by
  unfold World.cell? at hc
  rcases Nat.lt_or_ge p.block w.heap.size with h | h
  ·exact h
  ·rw [Array.getElem?_eq_none h]at hc;cases hc
 rw [Below.cell h hb];exact hc
theorem Ext.size {w w':World} (h:Ext w w'):w.heap.size≤w'.heap.size:=Below.size h
theorem Ext.setCell {a w:World} (h:Ext a w) {p:Addr} (hp:a.heap.size≤p.block) (u:Value):Ext a (w.setCell p u):=Below.setCell h hp u
theorem Ext.below {w w':World} (h:Ext w w'):Below w.heap.size w w':=h
theorem boxed (w:World) (cs:Array Value) (t:TypeId) (i:Nat) (v:Value) (h:cs[i]?=some v) (w':World) (hw:Ext (w.alloc (.cells cs t)) w'):
  w'.cell? ⟨w.heap.size,i,none⟩=some v:=by
 refine Ext.cell hw ?_
 simpa using h
theorem ecell {w w1:World} (h:Ext w w1):(∀b o,b < w.heap.size→w1.cell? ⟨b,o,none⟩=w.cell? ⟨b,o,none⟩)∧(∀b o,b < w.heap.size→w1.frozen? ⟨b,o,none⟩=w.frozen? ⟨b,o,none⟩)∧w.heap.size≤w1.heap.size:=
 ⟨fun b o hb=>Below.cell (p:=⟨b,o,none⟩) h hb,fun b o hb=>Below.frozen (p:=⟨b,o,none⟩) h hb,Below.size h⟩
theorem ret_bool {a b:Bool} (h:a=b):Ending.returned (.bool a)= .returned (.bool b):=by rw [h]
theorem ret_int {k:IntKind} {a b:Int} (h:a=b):Ending.returned (.int k a)= .returned (.int k b):=by rw [h]
theorem i64_bd {a:Int} (h:(Lit.int .i64 a).wf=true): -9223372036854775808≤a∧a≤9223372036854775807:=by
 simpa [Lit.wf,IntKind.min,IntKind.max,IntKind.signed,IntKind.bits]using h
def Only (b:Nat) (w w':World):Prop:=w.grownBy w' (some b)
theorem Only.trans {b:Nat} {u v w:World} (h:Only b u v) (k:Only b v w):Only b u w:=
 ⟨k.os.trans h.os,k.tape.trans h.tape,k.output.trans h.output,Nat.le_trans h.size k.size,
  fun i hi hne=>(k.block i (Nat.lt_of_lt_of_le hi h.size) hne).trans (h.block i hi hne)⟩
theorem Only.of_ext {b:Nat} {w w':World} (h:Ext w w'):Only b w w':=⟨h.os,h.tape,h.output,Below.size h,fun k hk _=>Below.block h k hk⟩
theorem Only.setCell {b:Nat} {u w:World} (h:Only b u w) (i:Nat) (v:Value):Only b u (w.setCell ⟨b,i,none⟩ v):=
 ⟨h.os,h.tape,h.output,by simpa using h.size,fun k hk hne=>(heap_setCell_other w ⟨b,i,none⟩ k v (fun e=>hne (by rw [e]))).trans (h.block k hk hne)⟩
theorem Only.ext {b:Nat} {u w w':World} (h:Only b w w') (hu:Ext u w) (hb:u.heap.size≤b):Ext u w':=
 Below.grown hu h (Below.size hu) (fun k hk=>by injection hk with hk;omega)
theorem Ext.drewN {u w:World} (h:Ext u w) (n:Nat):Ext u (w.drewN n):=⟨h.os,h.tape,h.output,h.size,h.block⟩
theorem Ext.block {w w':World} (h:Ext w w') {k:Nat} (hk:k < w.heap.size):w'.heap[k]?=w.heap[k]?:=Below.block h k hk
def ExtOf (W:World):Type:= {w:World//Ext W w}
instance ExtOf.inhabited (W:World):Nonempty (ExtOf W):=⟨⟨W,Ext.refl W⟩⟩
theorem zE {W w : World} (h : Ext W w := by repeat (first | (with_reducible exact Ext.refl _) | (with_reducible exact ExtOf.ext _) | (with_reducible assumption) | (with_reducible refine Ext.drew ?_) | (with_reducible refine Ext.alloc ?_ _))) : Ext W w := h
theorem zF {W w : World} (h : Ext W w := by repeat (first | (with_reducible exact Ext.refl _) | (with_reducible assumption) | (with_reducible refine Ext.drew ?_) | (with_reducible refine Ext.alloc ?_ _) | ((with_reducible refine Ext.setCell ?_ ?_ _); rotate_left; (focus (simp; try omega))) | (with_reducible refine Ext.trans ?_ (by assumption)))) : Ext W w := h
theorem zG {W w : World} (h : Ext W w := by repeat (first | (with_reducible exact Ext.refl _) | (with_reducible assumption) | (with_reducible refine Ext.drew ?_) | (with_reducible refine Ext.alloc ?_ _))) : Ext W w := h
theorem zH {p : Prop} (h : p) : Hid p := Lib.hid h
theorem Calls.ext_of {P:Program} {f:FuncId} {args:Array Value} {W:World} {u:ExtOf W} {v:Value} (h:Calls P f args u.1 fun e w'=>e= .returned v∧Ext u.1 w'):
  Calls P f args u.1 fun e w''=>e= .returned v∧∃u':ExtOf W,w''=u'.1:=
 h.mono fun _ w' ⟨he,hx⟩=>⟨he,⟨w',u.2.trans hx⟩,rfl⟩
theorem wp_region_ext {P:Program} {W:World} {id:Nat} {Q:Exit→Act→World→Prop} {a:Act} {w:World} {l:List Oper} (hm:P.follows .mixedOrders=true) (hB:Region.lexB .any l.toArray=true) (hx:Ext W w)
  (h:wpQuiet P l.toArray (fun w'=>∃u:ExtOf W,w'=u.1) (fun a'=>∀w',Ext W w'→Q .normal a' w') l a):(Code.region id l.toArray true).wp P Q a w:=
 wp_region_quiet (C:=fun w'=>∃u:ExtOf W,w'=u.1) hm hB ⟨⟨_,Ext.drew hx⟩,rfl⟩ (by
  have:(fun a'=>∀w',(∃u:ExtOf W,w'=u.1)→Q .normal a' w')=(fun a'=>∀w',Ext W w'→Q .normal a' w'):=by
   funext a'
   exact propext ⟨fun h w' hw=>h w' ⟨⟨w',hw⟩,rfl⟩,fun h w' ⟨u,hu⟩=>hu ▸ h _ u.2⟩
  rw [this]
  simpa using h)
def RowAt {α:Type} (n:Nat) (f:α→List Value) (w:World) (A:Option Addr) (xs:List α):Prop:=
 ∃b off,(xs≠ []→A=some ⟨b,off,none⟩)∧∀i x,xs[i]?=some x→∀j v,(f x)[j]?=some v→w.cell? ⟨b,off+i*n+j,none⟩=some v
theorem RowAt.ext {α:Type} {n:Nat} {f:α→List Value} {w w':World} {A:Option Addr} {xs:List α} (h:RowAt n f w A xs) (he:Ext w w'):RowAt n f w' A xs:=by
 obtain ⟨b,off,hA,hc⟩:=h
 exact ⟨b,off,hA,fun i x hx j v hv=>he.cell (hc i x hx j v hv)⟩
theorem RowAt.get {α:Type} {n:Nat} {f:α→List Value} {w:World} {A:Option Addr} {xs:List α} (h:RowAt n f w A xs) (hne:0 < xs.length):
  ∃b off,A=some ⟨b,off,none⟩∧∀i x,xs[i]?=some x→∀j v,(f x)[j]?=some v→w.cell? ⟨b,off+i*n+j,none⟩=some v:=by
 obtain ⟨b,off,hA,hc⟩:=h
 exact ⟨b,off,hA (by intro e;subst e;simp at hne),hc⟩
def intC (z:Int):List Value:= [.int .i64 z]
def spanC (x:Int×Int):List Value:= [.int .i64 x.1,.int .i64 x.2]
abbrev IntsAt (w:World) (A:Option Addr) (zs:List Int):Prop:=RowAt 1 intC w A zs
abbrev SpansAt (w:World) (A:Option Addr) (xs:List (Int×Int)):Prop:=RowAt 2 spanC w A xs
theorem ints_cell {w:World} {b off:Nat} {zs:List Int} (hc:∀i x,zs[i]?=some x→∀j v,(intC x)[j]?=some v→w.cell? ⟨b,off+i*1+j,none⟩=some v) {k:Nat} (hk:k < zs.length):
  w.cell? ⟨b,off+k,none⟩=some (.int .i64 (zs.getD k 0)):=by
 have h:=hc k zs[k] (by simp [hk]) 0 _ rfl
 simpa [hk]using h
theorem spans_cell {w:World} {b off:Nat} {xs:List (Int×Int)} (hc:∀i x,xs[i]?=some x→∀j v,(spanC x)[j]?=some v→w.cell? ⟨b,off+i*2+j,none⟩=some v) {k:Nat} (hk:k < xs.length):
  w.cell? ⟨b,off+k*2,none⟩=some (.int .i64 (xs.getD k (0,0)).1)∧w.cell? ⟨b,off+k*2+1,none⟩=some (.int .i64 (xs.getD k (0,0)).2):=by
 have h0:=hc k xs[k] (by simp [hk]) 0 _ rfl
 have h1:=hc k xs[k] (by simp [hk]) 1 _ rfl
 exact ⟨by simpa [hk]using h0,by simpa [hk]using h1⟩
section
open Go.WideShapes Go.ChangeShapes Go.ChangeAt Go.Joins Go.Deep
variable {H : Type} {enc : TypeId × Value → H} {w : World} {base b0 : Nat} {spare : Nat → Bool} {held : Bool} {v : Value} {d : DataW H} {p : List MemPlace} {r : Reach} {P : Program}
theorem open_four {t:TypeId} {f0 f1 f2 f3:Field} (hs:P.underlying t=some (.struct #[f0,f1,f2,f3])) (hone:oneCellFields P #[f0,f1,f2,f3]=true) (hC:P.cellsOf t=4)
  (he0:P.underlying f0.type=some (.int .i64)) (he1:P.underlying f1.type=some (.int .i64)) (he2:P.underlying f2.type=some (.int .i64)) (he3:P.underlying f3.type=some (.int .i64))
  (hv:Value.okWide P w r b0 t v) (h:DataW.Trod enc P w base spare held t v d p):
  ∃s l t m:Int,v= .agg #[.int .i64 (s),.int .i64 (l),.int .i64 (t),.int .i64 (m)]:=by
 obtain ⟨c0,c1,c2,c3,y0,y1,y2,y3,n,rfl,rfl,rfl,hy0,hy1,hy2,hy3⟩:=Go.Joins.open_agg4 hs hone hC hv h
 obtain ⟨a0,e0,_,_⟩:=DataW.trod_int he0 hy0
 obtain ⟨a1,e1,_,_⟩:=DataW.trod_int he1 hy1
 obtain ⟨a2,e2,_,_⟩:=DataW.trod_int he2 hy2
 obtain ⟨a3,e3,_,_⟩:=DataW.trod_int he3 hy3
 simp only [List.cons.injEq,and_true]at e0 e1 e2 e3
 subst e0 e1 e2 e3
 exact ⟨_,_,_,_,rfl⟩
end
section
open Go.WideShapes Go.ChangeShapes
variable {H : Type} {enc : TypeId × Value → H} {P : Program}
theorem post_of_ext {f:Func} {s:ChangeSpec} {apart fresh handsOn again:Bool} {W W':World} {args:Array Value} {v:Value} {ds gs:List (DataW H)} {before pa pv:List MemPlace}
  (hW:DataW.Whole enc P f.params.toList s.vars apart W args.toList ds gs before)
  (hres:∀(b:Nat) (sp:Nat→Bool) (hd:Bool),DataW.TrodAll enc P W' b sp hd f.resultTypes.toList (v.resultList f.resultTypes.size) (s.fn H (ds++gs)).results [])
  (hargs:DataW.TrodAll enc P W' 0 (fun b=>decide (b < W.heap.size)) true f.params.toList args.toList (s.fn H (ds++gs)).args pa)
  (hvars:∀sp:Nat→Bool,(∀p∈before,sp p.block=true)→DataW.TrodVars enc P W' sp s.vars (s.fn H (ds++gs)).vars pv)
  (hps:before=pa++pv) (hb:Below W.heap.size W W') (hag:again=false):
  s.post enc P f apart fresh handsOn again W args v W':=by
 subst hag
 have hlt:∀p∈before,p.block < W.heap.size:=fun p hp=>hW.lt p hp
 have hold:∀p∈before,(fun b=>decide (b < W.heap.size)) p.block=true:=fun p hp=>by simpa using hlt p hp
 refine ⟨ds,gs,before,[],pa,pv,hW,hres _ _ _,hargs,hvars _ hold,World.keptBut_mono (fun p hp=>⟨hp,?_⟩) (hb.frame (·∈before)),fun h=>by cases h⟩
 rw [hps,List.mem_append]at hp
 exact Or.inr hp
end
end Go.Proofs.YtphpppjfogpohaaGreat
namespace Go.Proofs.YtphpppjfogpohaaGreat
open Go.RowKit
def mayB (a s:Int):Bool:=decide (0≤a∧a≤1099511627776∧1≤s∧s≤1099511627776 - a)
theorem end_any (a s:Int) (w:World):
  Calls Tryz.prog 198 #[.agg #[.int .i64 (a),.int .i64 (s)]] w fun e w'=>e= .returned (.int .i64 (wrap64 (a+s)))∧Ext w w':=by
 go_enter Tryz.func198,Tryz.ntmps198
 go_wp2
 go_ret
 exact ⟨rfl,(Ext.refl _).alloc _⟩
theorem may_any (a s:Int) (w:World):
  Calls Tryz.prog 90 #[.agg #[.int .i64 (a),.int .i64 (s)]] w fun e w'=>e= .returned (.bool (mayB a s))∧Ext w w':=by
 go_enter Tryz.func90,Tryz.ntmps90
 go_wp2
 all_goals go_ret
 all_goals exact ⟨ret_bool (by unfold mayB;simp [*];try omega),(Ext.refl _).alloc _⟩
def hasB (a s p:Int):Bool:=mayB a s && decide (a≤p∧p < a+s)
theorem may_bd {a s:Int} (h:mayB a s=true):0≤a∧a≤1099511627776∧1≤s∧s≤1099511627776 - a:=by
 simpa [mayB]using h
def meetsB (a s c d:Int):Bool:=mayB a s && mayB c d && (hasB a s c || hasB c d a)
def coveredB (xs:List (Int×Int)) (p:Int):Bool:=xs.any fun x=>hasB x.1 x.2 p
theorem meets_alt {a s c d:Int} (h1:mayB a s=true) (h2:mayB c d=true):meetsB a s c d=(decide (a < c+d) && decide (c < a+s)):=by
 have:=may_bd h1
 have:=may_bd h2
 unfold meetsB hasB
 rw [h1,h2,Bool.eq_iff_iff]
 simp
 omega
theorem meets_no1 {a s c d:Int} (h1:mayB a s=false):meetsB a s c d=false:=by unfold meetsB;simp [h1]
theorem meets_no2 {a s c d:Int} (h1:mayB c d=false):meetsB a s c d=false:=by unfold meetsB;simp [h1]
def withinB (a s c d:Int):Bool:=mayB a s && mayB c d && decide (c≤a∧a+s≤c+d)
theorem may_is (a s:Int) (b:Bool) (h:mayB a s=b) (w:World):Calls Tryz.prog 90 #[.agg #[.int .i64 (a),.int .i64 (s)]] w fun e w'=>e= .returned (.bool b)∧Ext w w':=by
 rw [←h];exact may_any a s w
theorem end_is (a s:Int) (h:mayB a s=true) (w:World):Calls Tryz.prog 198 #[.agg #[.int .i64 (a),.int .i64 (s)]] w fun e w'=>e= .returned (.int .i64 (a+s))∧Ext w w':=by
 have:=may_bd h
 have h2:=end_any a s w
 rw [IntWalk.wrap64_in (a+s) ⟨by omega,by omega⟩]at h2
 exact h2
theorem meets_any (a s c d:Int) (w:World):
  Calls Tryz.prog 167 #[.agg #[.int .i64 (a),.int .i64 (s)],.agg #[.int .i64 (c),.int .i64 (d)]] w fun e w'=>e= .returned (.bool (meetsB a s c d))∧Ext w w':=by
 go_enter Tryz.func167,Tryz.ntmps167
 go_wp2_with fail
 have hW:Ext w ((w.alloc (.cells #[.int .i64 a,.int .i64 s] 63)).alloc (.cells #[.int .i64 c,.int .i64 d] 63)):=((Ext.refl w).alloc _).alloc _
 have k0:=boxed w #[.int .i64 a,.int .i64 s] 63 0 (.int .i64 a) rfl
 have k1:=boxed w #[.int .i64 a,.int .i64 s] 63 1 (.int .i64 s) rfl
 have k2:=boxed (w.alloc (.cells #[.int .i64 a,.int .i64 s] 63)) #[.int .i64 c,.int .i64 d] 63 0 (.int .i64 c) rfl
 have k3:=boxed (w.alloc (.cells #[.int .i64 a,.int .i64 s] 63)) #[.int .i64 c,.int .i64 d] 63 1 (.int .i64 d) rfl
 replace k0:∀w',Ext ((w.alloc (.cells #[.int .i64 a,.int .i64 s] 63)).alloc (.cells #[.int .i64 c,.int .i64 d] 63)) w'→_:=fun w' h=>k0 w' (((Ext.refl _).alloc _).trans h)
 replace k1:∀w',Ext ((w.alloc (.cells #[.int .i64 a,.int .i64 s] 63)).alloc (.cells #[.int .i64 c,.int .i64 d] 63)) w'→_:=fun w' h=>k1 w' (((Ext.refl _).alloc _).trans h)
 simp only [World.size_alloc]at k2 k3
 generalize (w.alloc (.cells #[.int .i64 a,.int .i64 s] 63)).alloc (.cells #[.int .i64 c,.int .i64 d] 63)=W at*
 have hs0:Ext W W:=Ext.refl W
 have l0:=fun u:ExtOf W=>k0 u.1 u.2
 have l1:=fun u:ExtOf W=>k1 u.1 u.2
 have l2:=fun u:ExtOf W=>k2 u.1 u.2
 have l3:=fun u:ExtOf W=>k3 u.1 u.2
 clear k0 k1 k2 k3
 cases h1:mayB a s
 ·have H:=zH (meets_no1 (c:=c) (d:=d) h1)
  (refine wp_region_ext (W:=W) (by kernel_rfl) (by kernel_rfl) (by with_reducible assumption) ?_;(repeat (go_big_quiet_step (first | (go_at_call 90;with_reducible exact Calls.ext_of (may_is a s _ h1 _)))));refine wpQuiet_nil ?_;intro w1 hx)
  go_wp2_with fail
  go_ret
  exact ⟨ret_bool (by rw [H.out]),hW.trans (by assumption)⟩
 cases h2:mayB c d
 ·have H:=zH (meets_no2 (a:=a) (s:=s) h2)
  (refine wp_region_ext (W:=W) (by kernel_rfl) (by kernel_rfl) (by with_reducible assumption) ?_;(repeat (go_big_quiet_step (first | (go_at_call 90;with_reducible exact Calls.ext_of (may_is a s _ h1 _)) | (go_at_call 90;with_reducible exact Calls.ext_of (may_is c d _ h2 _)))));refine wpQuiet_nil ?_;intro w1 hx)
  go_wp2_with fail
  go_ret
  exact ⟨ret_bool (by rw [H.out]),hW.trans (by assumption)⟩
 have HE:=zH (meets_alt h1 h2)
 obtain ⟨q1,q2,q3,q4⟩:=may_bd h1
 obtain ⟨q5,q6,q7,q8⟩:=may_bd h2
 by_cases t1:a < c+d
 rotate_left
 ·have t1':decide (a < c+d)=false:=by simpa using t1
  have H:Hid (meetsB a s c d=false):=zH (by rw [HE.out,t1'];rfl)
  (refine wp_region_ext (W:=W) (by kernel_rfl) (by kernel_rfl) (by with_reducible assumption) ?_;(repeat (go_big_quiet_step (first | (go_at_call 90;with_reducible exact Calls.ext_of (may_is a s _ h1 _)) | (go_at_call 90;with_reducible exact Calls.ext_of (may_is c d _ h2 _)) | (go_at_call 198;with_reducible exact Calls.ext_of (end_is c d h2 _)))));refine wpQuiet_nil ?_;intro w1 hx)
  go_wp2_with fail
  go_ret
  exact ⟨ret_bool (by rw [H.out]),hW.trans (by assumption)⟩
 have t1':decide (a < c+d)=true:=by simpa using t1
 by_cases t2:c < a+s
 rotate_left
 ·have t2':decide (c < a+s)=false:=by simpa using t2
  have H:Hid (meetsB a s c d=false):=zH (by rw [HE.out,t1',t2'];rfl)
  (refine wp_region_ext (W:=W) (by kernel_rfl) (by kernel_rfl) (by with_reducible assumption) ?_;(repeat (go_big_quiet_step (first | (go_at_call 90;with_reducible exact Calls.ext_of (may_is a s _ h1 _)) | (go_at_call 90;with_reducible exact Calls.ext_of (may_is c d _ h2 _)) | (go_at_call 198;with_reducible exact Calls.ext_of (end_is c d h2 _)) | (go_at_call 198;with_reducible exact Calls.ext_of (end_is a s h1 _)))));refine wpQuiet_nil ?_;intro w1 hx)
  go_wp2_with fail
  go_ret
  exact ⟨ret_bool (by rw [H.out]),hW.trans (by assumption)⟩
 ·have t2':decide (c < a+s)=true:=by simpa using t2
  have H:Hid (meetsB a s c d=true):=zH (by rw [HE.out,t1',t2'];rfl)
  (refine wp_region_ext (W:=W) (by kernel_rfl) (by kernel_rfl) (by with_reducible assumption) ?_;(repeat (go_big_quiet_step (first | (go_at_call 90;with_reducible exact Calls.ext_of (may_is a s _ h1 _)) | (go_at_call 90;with_reducible exact Calls.ext_of (may_is c d _ h2 _)) | (go_at_call 198;with_reducible exact Calls.ext_of (end_is c d h2 _)) | (go_at_call 198;with_reducible exact Calls.ext_of (end_is a s h1 _)))));refine wpQuiet_nil ?_;intro w1 hx)
  go_wp2_with fail
  go_ret
  exact ⟨ret_bool (by rw [H.out]),hW.trans (by assumption)⟩
theorem within_no1 {a s c d:Int} (h1:mayB a s=false):withinB a s c d=false:=by unfold withinB;simp [h1]
theorem within_no2 {a s c d:Int} (h1:mayB c d=false):withinB a s c d=false:=by unfold withinB;simp [h1]
theorem within_alt {a s c d:Int} (h1:mayB a s=true) (h2:mayB c d=true):withinB a s c d=(decide (c≤a) && decide (a+s≤c+d)):=by
 unfold withinB
 rw [h1,h2,Bool.eq_iff_iff]
 simp
theorem within_any (a s c d:Int) (w:World):
  Calls Tryz.prog 205 #[.agg #[.int .i64 (a),.int .i64 (s)],.agg #[.int .i64 (c),.int .i64 (d)]] w fun e w'=>e= .returned (.bool (withinB a s c d))∧Ext w w':=by
 go_enter Tryz.func205,Tryz.ntmps205
 go_wp2_with fail
 have hW:Ext w ((w.alloc (.cells #[.int .i64 a,.int .i64 s] 63)).alloc (.cells #[.int .i64 c,.int .i64 d] 63)):=((Ext.refl w).alloc _).alloc _
 have k0:=boxed w #[.int .i64 a,.int .i64 s] 63 0 (.int .i64 a) rfl
 have k1:=boxed w #[.int .i64 a,.int .i64 s] 63 1 (.int .i64 s) rfl
 have k2:=boxed (w.alloc (.cells #[.int .i64 a,.int .i64 s] 63)) #[.int .i64 c,.int .i64 d] 63 0 (.int .i64 c) rfl
 have k3:=boxed (w.alloc (.cells #[.int .i64 a,.int .i64 s] 63)) #[.int .i64 c,.int .i64 d] 63 1 (.int .i64 d) rfl
 replace k0:∀w',Ext ((w.alloc (.cells #[.int .i64 a,.int .i64 s] 63)).alloc (.cells #[.int .i64 c,.int .i64 d] 63)) w'→_:=fun w' h=>k0 w' (((Ext.refl _).alloc _).trans h)
 replace k1:∀w',Ext ((w.alloc (.cells #[.int .i64 a,.int .i64 s] 63)).alloc (.cells #[.int .i64 c,.int .i64 d] 63)) w'→_:=fun w' h=>k1 w' (((Ext.refl _).alloc _).trans h)
 simp only [World.size_alloc]at k2 k3
 generalize (w.alloc (.cells #[.int .i64 a,.int .i64 s] 63)).alloc (.cells #[.int .i64 c,.int .i64 d] 63)=W at*
 have hs0:Ext W W:=Ext.refl W
 have l0:=fun u:ExtOf W=>k0 u.1 u.2
 have l1:=fun u:ExtOf W=>k1 u.1 u.2
 have l2:=fun u:ExtOf W=>k2 u.1 u.2
 have l3:=fun u:ExtOf W=>k3 u.1 u.2
 clear k0 k1 k2 k3
 cases h1:mayB a s
 ·have H:=zH (within_no1 (c:=c) (d:=d) h1)
  (refine wp_region_ext (W:=W) (by kernel_rfl) (by kernel_rfl) (by with_reducible assumption) ?_;(repeat (go_big_quiet_step (first | (go_at_call 90;with_reducible exact Calls.ext_of (may_is a s _ h1 _)))));refine wpQuiet_nil ?_;intro w1 hx)
  go_wp2_with fail
  go_ret
  exact ⟨ret_bool (by rw [H.out]),hW.trans (by assumption)⟩
 cases h2:mayB c d
 ·have H:=zH (within_no2 (a:=a) (s:=s) h2)
  (refine wp_region_ext (W:=W) (by kernel_rfl) (by kernel_rfl) (by with_reducible assumption) ?_;(repeat (go_big_quiet_step (first | (go_at_call 90;with_reducible exact Calls.ext_of (may_is a s _ h1 _)) | (go_at_call 90;with_reducible exact Calls.ext_of (may_is c d _ h2 _)))));refine wpQuiet_nil ?_;intro w1 hx)
  go_wp2_with fail
  go_ret
  exact ⟨ret_bool (by rw [H.out]),hW.trans (by assumption)⟩
 have HE:=zH (within_alt h1 h2)
 obtain ⟨q1,q2,q3,q4⟩:=may_bd h1
 obtain ⟨q5,q6,q7,q8⟩:=may_bd h2
 by_cases t1:c≤a
 rotate_left
 ·have t1':decide (c≤a)=false:=by simpa using t1
  have H:Hid (withinB a s c d=false):=zH (by rw [HE.out,t1'];rfl)
  (refine wp_region_ext (W:=W) (by kernel_rfl) (by kernel_rfl) (by with_reducible assumption) ?_;(repeat (go_big_quiet_step (first | (go_at_call 90;with_reducible exact Calls.ext_of (may_is a s _ h1 _)) | (go_at_call 90;with_reducible exact Calls.ext_of (may_is c d _ h2 _)))));refine wpQuiet_nil ?_;intro w1 hx)
  go_wp2_with fail
  go_ret
  exact ⟨ret_bool (by rw [H.out]),hW.trans (by assumption)⟩
 have t1':decide (c≤a)=true:=by simpa using t1
 by_cases t2:a+s≤c+d
 rotate_left
 ·have t2':decide (a+s≤c+d)=false:=by simpa using t2
  have H:Hid (withinB a s c d=false):=zH (by rw [HE.out,t1',t2'];rfl)
  (refine wp_region_ext (W:=W) (by kernel_rfl) (by kernel_rfl) (by with_reducible assumption) ?_;(repeat (go_big_quiet_step (first | (go_at_call 90;with_reducible exact Calls.ext_of (may_is a s _ h1 _)) | (go_at_call 90;with_reducible exact Calls.ext_of (may_is c d _ h2 _)) | (go_at_call 198;with_reducible exact Calls.ext_of (end_is c d h2 _)) | (go_at_call 198;with_reducible exact Calls.ext_of (end_is a s h1 _)))));refine wpQuiet_nil ?_;intro w1 hx)
  go_wp2_with fail
  go_ret
  exact ⟨ret_bool (by rw [H.out]),hW.trans (by assumption)⟩
 ·have t2':decide (a+s≤c+d)=true:=by simpa using t2
  have H:Hid (withinB a s c d=true):=zH (by rw [HE.out,t1',t2'];rfl)
  (refine wp_region_ext (W:=W) (by kernel_rfl) (by kernel_rfl) (by with_reducible assumption) ?_;(repeat (go_big_quiet_step (first | (go_at_call 90;with_reducible exact Calls.ext_of (may_is a s _ h1 _)) | (go_at_call 90;with_reducible exact Calls.ext_of (may_is c d _ h2 _)) | (go_at_call 198;with_reducible exact Calls.ext_of (end_is c d h2 _)) | (go_at_call 198;with_reducible exact Calls.ext_of (end_is a s h1 _)))));refine wpQuiet_nil ?_;intro w1 hx)
  go_wp2_with fail
  go_ret
  exact ⟨ret_bool (by rw [H.out]),hW.trans (by assumption)⟩
def cfgB (s l t m:Int):Bool:=decide (2≤s∧s≤32768∧1≤m∧m≤s∧0≤l∧l≤32768∧1≤t∧t≤1024)
def wordsZ (s l t m:Int):Int:=if cfgB s l t m then 2*s+l else 0
def halfA (s l t m:Int) (b:Bool):Int:=if cfgB s l t m then (if b then s else 0)else 0
def halfS (s l t m:Int):Int:=if cfgB s l t m then s else 0
def largeA (s l t m:Int):Int:=if cfgB s l t m then (if l=0 then 0 else 2*s)else 0
def largeS (s l t m:Int):Int:=if cfgB s l t m then l else 0
def smallB (s l t m at_:Int):Bool:=cfgB s l t m && decide (1≤at_∧at_≤m)
theorem cfg_bd {s l t m:Int} (h:cfgB s l t m=true):2≤s∧s≤32768∧1≤m∧m≤s∧0≤l∧l≤32768∧1≤t∧t≤1024:=by
 simpa [cfgB]using h
theorem check_any (s l t m:Int) (w:World):
  Calls Tryz.prog 85 #[.agg #[.int .i64 (s),.int .i64 (l),.int .i64 (t),.int .i64 (m)]] w fun e w'=>e= .returned (.bool (cfgB s l t m))∧Ext w w':=by
 go_enter Tryz.func85,Tryz.ntmps85
 go_wp2
 all_goals go_ret
 all_goals exact ⟨ret_bool (by unfold cfgB;simp [*];try omega),zF⟩
theorem words_any (s l t m:Int) (w:World):
  Calls Tryz.prog 88 #[.agg #[.int .i64 (s),.int .i64 (l),.int .i64 (t),.int .i64 (m)]] w fun e w'=>e= .returned (.int .i64 (wordsZ s l t m))∧Ext w w':=by
 by_cases hb:cfgB s l t m=true
 ·obtain ⟨h1,h2,h3,h4,h5,h6,h7,h8⟩:=cfg_bd hb
  go_enter Tryz.func88,Tryz.ntmps88
  go_wp2_with (go_at_call 85;refine (check_any _ _ _ _ _).mono ?_;rintro e w1 ⟨rfl,hx⟩;obtain ⟨hcc,hff,hzz⟩:=ecell hx;(try simp only [World.size_alloc]at hzz);(try (have hz0:=Nat.lt_of_succ_le hzz));(try (have hz1:=Nat.lt_of_succ_lt hz0));(try (have hz2:=Nat.lt_of_succ_lt hz1));(try (have hz3:=Nat.lt_of_succ_lt hz2)))
  go_ret
  exact ⟨ret_int (by simp [wordsZ,hb]),zF⟩
 ·have hb':cfgB s l t m=false:=by simpa using hb
  go_enter Tryz.func88,Tryz.ntmps88
  go_wp2_with (go_at_call 85;refine (check_any _ _ _ _ _).mono ?_;rintro e w1 ⟨rfl,hx⟩;obtain ⟨hcc,hff,hzz⟩:=ecell hx;(try simp only [World.size_alloc]at hzz);(try (have hz0:=Nat.lt_of_succ_le hzz));(try (have hz1:=Nat.lt_of_succ_lt hz0));(try (have hz2:=Nat.lt_of_succ_lt hz1));(try (have hz3:=Nat.lt_of_succ_lt hz2)))
  go_ret
  exact ⟨ret_int (by simp [wordsZ,hb']),zF⟩
theorem parts_yes {s l t m:Int} {b:Bool} (hb:cfgB s l t m=true):(.agg #[.int .i64 (halfA s l t m b),.int .i64 (halfS s l t m),.int .i64 (halfA s l t m (!b)),.int .i64 (halfS s l t m),.int .i64 (largeA s l t m),.int .i64 (largeS s l t m)]:Value)=Value.agg #[.int .i64 (if b then s else 0),.int .i64 s,.int .i64 (if b then 0 else s),.int .i64 s,.int .i64 (if l=0 then 0 else 2*s),.int .i64 l]:=by
 cases b <;>simp [halfA,halfS,largeA,largeS,hb]
theorem parts_no {s l t m:Int} {b:Bool} (hb:cfgB s l t m=false):(.agg #[.int .i64 (halfA s l t m b),.int .i64 (halfS s l t m),.int .i64 (halfA s l t m (!b)),.int .i64 (halfS s l t m),.int .i64 (largeA s l t m),.int .i64 (largeS s l t m)]:Value)=Value.agg #[.int .i64 0,.int .i64 0,.int .i64 0,.int .i64 0,.int .i64 0,.int .i64 0]:=by
 cases b <;>simp [halfA,halfS,largeA,largeS,hb]
theorem parts_any (s l t m:Int) (b:Bool) (w:World):
  Calls Tryz.prog 132 #[.agg #[.int .i64 (s),.int .i64 (l),.int .i64 (t),.int .i64 (m)],.bool b] w fun e w'=>e= .returned (.agg #[.int .i64 (halfA s l t m b),.int .i64 (halfS s l t m),.int .i64 (halfA s l t m (!b)),.int .i64 (halfS s l t m),.int .i64 (largeA s l t m),.int .i64 (largeS s l t m)])∧Ext w w':=by
 by_cases hb:cfgB s l t m=true
 ·rw [parts_yes hb]
  obtain ⟨h1,h2,h3,h4,h5,h6,h7,h8⟩:=cfg_bd hb
  by_cases h9:l=0
  ·subst h9
   cases b
   ·go_enter Tryz.func132,Tryz.ntmps132
    go_wp2_with (go_at_call 85;refine (check_any _ _ _ _ _).mono ?_;rintro e w1 ⟨rfl,hx⟩;obtain ⟨hcc,hff,hzz⟩:=ecell hx;(try simp only [World.size_alloc]at hzz);(try (have hz0:=Nat.lt_of_succ_le hzz));(try (have hz1:=Nat.lt_of_succ_lt hz0));(try (have hz2:=Nat.lt_of_succ_lt hz1));(try (have hz3:=Nat.lt_of_succ_lt hz2)))
    ((try simp only [Exit.inBlock,Exit.then]);refine bodyPost_ret (v:= .agg #[.int .i64 0,.int .i64 s,.int .i64 s,.int .i64 s,.int .i64 0,.int .i64 0]) (by simp only [results,Tryz.results132];go_simp) rfl ?_)
    exact ⟨rfl,zF⟩
   ·go_enter Tryz.func132,Tryz.ntmps132
    go_wp2_with (go_at_call 85;refine (check_any _ _ _ _ _).mono ?_;rintro e w1 ⟨rfl,hx⟩;obtain ⟨hcc,hff,hzz⟩:=ecell hx;(try simp only [World.size_alloc]at hzz);(try (have hz0:=Nat.lt_of_succ_le hzz));(try (have hz1:=Nat.lt_of_succ_lt hz0));(try (have hz2:=Nat.lt_of_succ_lt hz1));(try (have hz3:=Nat.lt_of_succ_lt hz2)))
    ((try simp only [Exit.inBlock,Exit.then]);refine bodyPost_ret (v:= .agg #[.int .i64 s,.int .i64 s,.int .i64 0,.int .i64 s,.int .i64 0,.int .i64 0]) (by simp only [results,Tryz.results132];go_simp) rfl ?_)
    exact ⟨rfl,zF⟩
  ·have hl:((l:Int)==0)=false:=by simpa using h9
   rw [if_neg h9]
   cases b
   ·go_enter Tryz.func132,Tryz.ntmps132
    go_wp2_with (go_at_call 85;refine (check_any _ _ _ _ _).mono ?_;rintro e w1 ⟨rfl,hx⟩;obtain ⟨hcc,hff,hzz⟩:=ecell hx;(try simp only [World.size_alloc]at hzz);(try (have hz0:=Nat.lt_of_succ_le hzz));(try (have hz1:=Nat.lt_of_succ_lt hz0));(try (have hz2:=Nat.lt_of_succ_lt hz1));(try (have hz3:=Nat.lt_of_succ_lt hz2)))
    ((try simp only [Exit.inBlock,Exit.then]);refine bodyPost_ret (v:= .agg #[.int .i64 0,.int .i64 s,.int .i64 s,.int .i64 s,.int .i64 (2*s),.int .i64 l]) (by simp only [results,Tryz.results132];go_simp) rfl ?_)
    exact ⟨rfl,zF⟩
   ·go_enter Tryz.func132,Tryz.ntmps132
    go_wp2_with (go_at_call 85;refine (check_any _ _ _ _ _).mono ?_;rintro e w1 ⟨rfl,hx⟩;obtain ⟨hcc,hff,hzz⟩:=ecell hx;(try simp only [World.size_alloc]at hzz);(try (have hz0:=Nat.lt_of_succ_le hzz));(try (have hz1:=Nat.lt_of_succ_lt hz0));(try (have hz2:=Nat.lt_of_succ_lt hz1));(try (have hz3:=Nat.lt_of_succ_lt hz2)))
    ((try simp only [Exit.inBlock,Exit.then]);refine bodyPost_ret (v:= .agg #[.int .i64 s,.int .i64 s,.int .i64 0,.int .i64 s,.int .i64 (2*s),.int .i64 l]) (by simp only [results,Tryz.results132];go_simp) rfl ?_)
    exact ⟨rfl,zF⟩
 ·have hb':cfgB s l t m=false:=by simpa using hb
  rw [parts_no hb']
  go_enter Tryz.func132,Tryz.ntmps132
  go_wp2_with (go_at_call 85;refine (check_any _ _ _ _ _).mono ?_;rintro e w1 ⟨rfl,hx⟩;obtain ⟨hcc,hff,hzz⟩:=ecell hx;(try simp only [World.size_alloc]at hzz);(try (have hz0:=Nat.lt_of_succ_le hzz));(try (have hz1:=Nat.lt_of_succ_lt hz0));(try (have hz2:=Nat.lt_of_succ_lt hz1));(try (have hz3:=Nat.lt_of_succ_lt hz2)))
  ((try simp only [Exit.inBlock,Exit.then]);refine bodyPost_ret (v:= .agg #[.int .i64 0,.int .i64 0,.int .i64 0,.int .i64 0,.int .i64 0,.int .i64 0]) (by simp only [results,Tryz.results132];go_simp) rfl ?_)
  exact ⟨rfl,zF⟩
theorem idx0 (v0 v1 v2 v3 v4 v5:Value) (w:World):(Instr.index 178 (.agg #[v0,v1,v2,v3,v4,v5]) (.int .i64 0)).run Tryz.prog w= .ok (.agg #[v0,v1]) w:=by kernel_rfl
theorem idx2 (v0 v1 v2 v3 v4 v5:Value) (w:World):(Instr.index 178 (.agg #[v0,v1,v2,v3,v4,v5]) (.int .i64 2)).run Tryz.prog w= .ok (.agg #[v4,v5]) w:=by kernel_rfl
theorem from_any (s l t m:Int) (b:Bool) (w:World):
  Calls Tryz.prog 81 #[.agg #[.int .i64 (s),.int .i64 (l),.int .i64 (t),.int .i64 (m)],.bool b] w fun e w'=>e= .returned (.agg #[.int .i64 (halfA s l t m b),.int .i64 (halfS s l t m)])∧Ext w w':=by
 have i0:=idx0
 go_enter Tryz.func81,Tryz.ntmps81
 go_wp2_with (go_at_call 132;refine (parts_any _ _ _ _ _ _).mono ?_;rintro e w1 ⟨rfl,hx⟩;obtain ⟨hcc,hff,hzz⟩:=ecell hx;(try simp only [World.size_alloc]at hzz);(try (have hz0:=Nat.lt_of_succ_le hzz));(try (have hz1:=Nat.lt_of_succ_lt hz0));(try (have hz2:=Nat.lt_of_succ_lt hz1));(try (have hz3:=Nat.lt_of_succ_lt hz2)))
 ((try simp only [Exit.inBlock,Exit.then]);refine bodyPost_ret (v:= .agg #[.int .i64 (halfA s l t m b),.int .i64 (halfS s l t m)]) (by simp only [results,Tryz.results81];go_simp) rfl ?_)
 exact ⟨rfl,zF⟩
theorem large_any (s l t m:Int) (w:World):
  Calls Tryz.prog 89 #[.agg #[.int .i64 (s),.int .i64 (l),.int .i64 (t),.int .i64 (m)]] w fun e w'=>e= .returned (.agg #[.int .i64 (largeA s l t m),.int .i64 (largeS s l t m)])∧Ext w w':=by
 have i0:=idx2
 go_enter Tryz.func89,Tryz.ntmps89
 go_wp2_with (go_at_call 132;refine (parts_any _ _ _ _ _ _).mono ?_;rintro e w1 ⟨rfl,hx⟩;obtain ⟨hcc,hff,hzz⟩:=ecell hx;(try simp only [World.size_alloc]at hzz);(try (have hz0:=Nat.lt_of_succ_le hzz));(try (have hz1:=Nat.lt_of_succ_lt hz0));(try (have hz2:=Nat.lt_of_succ_lt hz1));(try (have hz3:=Nat.lt_of_succ_lt hz2)))
 ((try simp only [Exit.inBlock,Exit.then]);refine bodyPost_ret (v:= .agg #[.int .i64 (largeA s l t m),.int .i64 (largeS s l t m)]) (by simp only [results,Tryz.results89];go_simp) rfl ?_)
 exact ⟨rfl,zF⟩
theorem small_any (s l t m at_:Int) (w:World):
  Calls Tryz.prog 133 #[.agg #[.int .i64 (s),.int .i64 (l),.int .i64 (t),.int .i64 (m)],.int .i64 at_] w fun e w'=>e= .returned (.bool (smallB s l t m at_))∧Ext w w':=by
 by_cases hb:cfgB s l t m=true
 ·go_enter Tryz.func133,Tryz.ntmps133
  go_wp2_with (go_at_call 85;refine (check_any _ _ _ _ _).mono ?_;rintro e w1 ⟨rfl,hx⟩;obtain ⟨hcc,hff,hzz⟩:=ecell hx;(try simp only [World.size_alloc]at hzz);(try (have hz0:=Nat.lt_of_succ_le hzz));(try (have hz1:=Nat.lt_of_succ_lt hz0));(try (have hz2:=Nat.lt_of_succ_lt hz1));(try (have hz3:=Nat.lt_of_succ_lt hz2)))
  all_goals go_ret
  all_goals exact ⟨ret_bool (by unfold smallB;simp [*];try omega),zF⟩
 ·have hb':cfgB s l t m=false:=by simpa using hb
  go_enter Tryz.func133,Tryz.ntmps133
  go_wp2_with (go_at_call 85;refine (check_any _ _ _ _ _).mono ?_;rintro e w1 ⟨rfl,hx⟩;obtain ⟨hcc,hff,hzz⟩:=ecell hx;(try simp only [World.size_alloc]at hzz);(try (have hz0:=Nat.lt_of_succ_le hzz));(try (have hz1:=Nat.lt_of_succ_lt hz0));(try (have hz2:=Nat.lt_of_succ_lt hz1));(try (have hz3:=Nat.lt_of_succ_lt hz2)))
  go_ret
  exact ⟨ret_bool (by unfold smallB;simp [hb']),zF⟩
end Go.Proofs.YtphpppjfogpohaaGreat
