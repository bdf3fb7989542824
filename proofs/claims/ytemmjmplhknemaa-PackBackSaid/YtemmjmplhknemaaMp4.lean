/- Merged by program (merge.py) out of: Ord, Seg, Fork, Exact, Tree, Pln, Gnr. -/
import Derived.OrdersHeld
import Derived.Test.YtemmjmplhknemaaMp3
set_option linter.unusedSimpArgs false
set_option linter.unusedVariables false
set_option maxRecDepth 100000
set_option maxHeartbeats 16000000
namespace Go.Proofs.Ytemmjmplhknemaa
open Go.RowKit
def isRead:Op→Bool
 | .move _=>true
 | .assign _=>true
 | .pick ..=>true
 | .load ..=>true
 | .fieldAddr ..=>true
 | .indexAddr ..=>true
 | .binOp ..=>true
 | .unOp ..=>true
 | .field ..=>true
 | .build ..=>true
 | .extract ..=>true
 | .index ..=>true
 | .slice ..=>true
 | .convert ..=>true
 | .lookup ..=>true
 | .nilCheck _=>true
 | _=>false
section
variable {P : Program} {ops : Array Oper} {md : Region.Mode} {C : World → Prop}
theorem run_v {s:Sem Value} {w:World} {v:Value} (hq:Oper.quietUpon P C w v ((s >>=fun x=>pure (Next.value x)).run P w)):(s >>=fun x=>pure (Next.value x)).run P w= .ok (.value v) w:=by
 rw [Sem.run_bind]at hq⊢
 cases hs:s.run P w with
 | ok x w1=>
  simp only [hs,Result.andThen_ok,Sem.run_pure,Oper.quietUpon]at hq⊢
  obtain ⟨rfl,rfl⟩:=hq
  rfl
 | halt x w1=>simp only [hs,Result.andThen,Oper.quietUpon]at hq
theorem run_nilc {ρ:Operand→Value} {w:World} {v:Value} {dst:Option Tmp} {y:Operand} {ty:TypeId} {pos:String} {aft:Array Edge} {gd:Option (Nat×Bool)}
  (hq:Oper.quietUpon P C w v ((execOp ρ {dst:=dst,op:=Op.nilCheck y,type:=ty,pos:=pos,after:=aft,guard:=gd}).run P w)):(execOp ρ {dst:=dst,op:=Op.nilCheck y,type:=ty,pos:=pos,after:=aft,guard:=gd}).run P w= .ok (.value v) w:=by
 have hr:∀r,(execOp ρ {dst:=dst,op:=Op.nilCheck y,type:=ty,pos:=pos,after:=aft,guard:=gd}).run P w=r→(∃x w',r= .ok (.value x) w')∨(∃h w',r= .halt h w'):=by
  intro r hr
  subst hr
  simp only [execOp]
  generalize ρ y=c
  have hp:∀ {α:Type} (w:World),∃h w',(runtimePanic (α:=α) .nilDeref).run P w= .halt h w':=fun w=>⟨_,_,rfl⟩
  split
  ·exact .inr (hp _)
  ·exact .inr (hp _)
  ·exact .inr (hp _)
  ·split
   ·exact .inr (hp _)
   ·rename_i t u _
    rw [Sem.run_bind]
    have e1:Sem.run P program w= .ok P w:=rfl
    rw [e1]
    simp only [Result.andThen_ok,Sem.run_bind]
    cases hs:Sem.run P (nilAhead (P.types.size+Made.depth) t u _) w with
    | ok b w1=>
     simp only [Result.andThen_ok]
     split
     ·exact .inr ⟨_,_,rfl⟩
     ·exact .inl ⟨_,_,rfl⟩
    | halt x w1=>exact .inr ⟨_,_,rfl⟩
   ·exact .inl ⟨_,_,rfl⟩
  ·exact .inl ⟨_,_,rfl⟩
 rcases hr _ rfl with ⟨x,w',h⟩ | ⟨x,w',h⟩
 ·rw [h]at hq⊢
  simp only [Oper.quietUpon]at hq
  obtain ⟨rfl,rfl⟩:=hq
  rfl
 ·rw [h]at hq
  simp only [Oper.quietUpon]at hq
theorem run_read {o:Oper} {ρ:Operand→Value} {w:World} {v:Value} (h:isRead o.op=true) (hq:Oper.quietUpon P C w v ((execOp ρ o).run P w)):(execOp ρ o).run P w= .ok (.value v) w:=by
 obtain ⟨dst,op,ty,pos,aft,gd⟩:=o
 cases op <;>first
  | (simp only [isRead,Bool.false_eq_true]at h;done)
  | exact run_v hq
  | exact run_nilc hq
  | (simp only [execOp,Sem.run_pure,Oper.quietUpon]at hq⊢;obtain ⟨-,rfl⟩:=hq;rfl)
  | (rename_i c x y
     simp only [execOp,Sem.run_bind]at hq⊢
     cases hs:(asBool (ρ c)).run P w with
     | ok b w1 =>
       simp only [hs,Result.andThen_ok,Sem.run_pure,Oper.quietUpon]at hq⊢
       obtain ⟨rfl,rfl⟩:=hq
       rfl
     | halt x w1=>simp only [hs,Result.andThen,Oper.quietUpon]at hq)
def waitsT (md:Region.Mode) (ops:Array Oper):Nat→Nat→Nat→Bool
 | 0,_,_=>false
 | n+1,j,i=>match ops[j]? with
  | some oj=>oj.after.any fun e=>Region.binds md e && (e.on==i || waitsT md ops n e.on i)
  | none=>false
def Closed (md:Region.Mode) (ops:Array Oper) (listed:Array Bool):Prop:=∀j oj,ops[j]?=some oj→listed.getD j false=true→∀e∈oj.after,Region.binds md e=true→listed.getD e.on false=true
theorem Closed.waits {listed:Array Bool} (hc:Closed md ops listed):∀n j i,listed.getD j false=true→waitsT md ops n j i=true→listed.getD i false=true:=by
 intro n
 induction n with
 | zero=>intro j i _ h;simp [waitsT]at h
 | succ n ih=>
  intro j i hl h
  unfold waitsT at h
  split at h
  ·rename_i oj hj
   obtain ⟨e,he,hb⟩:=Array.any_eq_true'.1 h
   simp only [Bool.and_eq_true,Bool.or_eq_true,beq_iff_eq]at hb
   have h1:=hc j oj hj hl e he hb.1
   rcases hb.2 with h2 | h2
   ·rw [←h2];exact h1
   ·exact ih _ _ h1 h2
  ·cases h
theorem Closed.ready {listed:Array Bool} (hc:Closed md ops listed) {n j i:Nat} (hr:j∈Region.ready md ops listed) (h:waitsT md ops n j i=true):listed.getD i false=true:=by
 obtain ⟨_,oj,hj,hall⟩:=mem_ready.1 hr
 cases n with
 | zero=>simp [waitsT]at h
 | succ n=>
  unfold waitsT at h
  simp only [hj]at h
  obtain ⟨e,he,hb⟩:=Array.any_eq_true'.1 h
  simp only [Bool.and_eq_true,Bool.or_eq_true,beq_iff_eq]at hb
  have h1:=hall e he hb.1
  rcases hb.2 with h2 | h2
  ·rw [←h2];exact h1
  ·exact hc.waits _ _ _ h1 h2
theorem Closed.set {listed:Array Bool} {i:Nat} (hc:Closed md ops listed) (hi:i∈Region.ready md ops listed):Closed md ops (listed.setIfInBounds i true):=by
 obtain ⟨_,oi,hoi,hall⟩:=mem_ready.1 hi
 intro j oj hj hl e he hb
 by_cases hij:i=j
 ·subst hij
  obtain rfl:oj=oi:=Option.some.inj (hj.symm.trans hoi)
  exact getD_set_true (hall e he hb)
 ·rw [getD_set_ne false hij]at hl
  exact getD_set_true (hc j oj hj hl e he hb)
def wpAnyG (P:Program) (md:Region.Mode) (ops:Array Oper) (Q:Exit→Act→World→Prop) (S:World→Prop) (tl:List Nat):Nat→Array Bool→Act→World→Prop
 | 0,listed,a,w=>Region.ready md ops listed= []∧Q .normal a w
 | fuel+1,listed,a,w=>(Region.ready md ops listed= []→Q .normal a w)∧
  ∀i∈Region.ready md ops listed,wpOp P ops Q i (fun a' w'=>(i∉tl→S w')∧wpAnyG P md ops Q S tl fuel (listed.setIfInBounds i true) a' w') a w
variable {Q : Exit → Act → World → Prop} {S : World → Prop} {tl : List Nat}
theorem wpAny_of_G:∀(fuel:Nat) (listed:Array Bool) (a:Act) (w:World),wpAnyG P md ops Q S tl fuel listed a w→wpAny P md ops Q fuel listed a w:=by
 intro fuel
 induction fuel with
 | zero=>exact fun _ _ _ h=>h
 | succ fuel ih=>exact fun listed a w h=>⟨h.1,fun i hi=>wpOp_mono (fun a' w' h'=>ih _ a' w' h'.2) (h.2 i hi)⟩
theorem G_first {i n:Nat} {oi:Oper} {v:Value} (hi:ops[i]?=some oi) (hsel:∀(j:Nat) (o:Oper) cs b,ops[j]?=some o→o.op≠ .select cs b)
  (hQ:∀c a w,Q (.panic c) (a.put oi.dst v) w→Q (.panic c) a w) (htl:∀j∈tl,waitsT md ops n j i=true):
  ∀(fuel:Nat) (listed:Array Bool) (a:Act) (w:World),Closed md ops listed→
   (∀j oj,ops[j]?=some oj→j≠i→listed.getD j true=false→(∀e∈oj.after,Region.binds md e=true→e.on≠i)→oi.apart ops oj=true)→
   i∈Region.ready md ops listed→YieldsIf P ops S oi v a→S w→
   wpAnyG P md ops Q S tl fuel (listed.setIfInBounds i true) (a.put oi.dst v) w→wpAnyG P md ops Q S tl (fuel+1) listed a w:=by
 intro fuel
 induction fuel with
 | zero=>
  intro listed a w _ _ hr hy hS H
  refine ⟨fun h=>(by rw [h]at hr;cases hr),fun j hj=> ?_⟩
  by_cases hji:j=i
  ·subst hji;exact hy.wpOp hi hS ⟨fun _=>hS,H⟩
  ·have:=ready_mono hj hji
   rw [H.1]at this
   cases this
 | succ fuel ih=>
  intro listed a w hc hfree hr hy hS H
  have hun:=(mem_ready.1 hr).1
  refine ⟨fun h=>(by rw [h]at hr;cases hr),fun j hj=> ?_⟩
  by_cases hji:j=i
  ·subst hji;exact hy.wpOp hi hS ⟨fun _=>hS,H⟩
  ·have h1:=H.2 j (ready_mono hj hji)
   obtain ⟨hjun,oj,hoj,hall⟩:=mem_ready.1 hj
   have hnot:∀e∈oj.after,Region.binds md e=true→e.on≠i:=fun e he hb heq=>by
    have h1:=hall e he hb
    rw [heq,getD_both hun]at h1
    cases h1
   have hjt:j∉tl:=fun h=>by
    have:=hc.ready hj (htl j h)
    rw [getD_both hun]at this
    cases this
   have h2:=wpOp_putIf hoj (hfree j oj hoj hji hjun hnot) (fun cs b=>hsel i oi cs b hi) (fun cs b=>hsel j oj cs b hoj) hQ hy h1
   refine wpOp_mono (fun a' w' h3=>⟨h3.2.1,ih (listed.setIfInBounds j true) a' w' (hc.set hj) (fun k ok hk hki hun' hno=> ?_) (ready_mono hr (Ne.symm hji)) h3.1 (h3.2.1 hjt) ?_⟩) h2
   ·refine hfree k ok hk hki ?_ hno
    by_cases h:j=k
    ·subst h;exact hjun
    ·rw [getD_set_ne true h]at hun';exact hun'
   ·rw [Array.setIfInBounds_comm _ _ hji]
    exact h3.2.2
def MidWalk (P:Program) (ops:Array Oper) (Q:Exit→Act→World→Prop) (S:World→Prop) (tl:List Oper):List Oper→Act→World→Prop
 | [],a,w=>wpList P ops Q tl a w
 | o::l,a,w=>if Region.wanted o (yielded ops a.tmps)then o.wp P a w (fun a' w'=>S w'∧MidWalk P ops Q S tl l a' w') Q∨(o.asks P a w∧LetsOut Q)else S w∧MidWalk P ops Q S tl l (a.put o.dst undef) w
theorem mid_step {tl l:List Oper} {o:Oper} {a:Act} {w:World} (hw:Region.wanted o (yielded ops a.tmps)=true) (h:∀K:Act→World→Prop,(∀a' w',S w'→MidWalk P ops Q S tl l a' w'→K a' w')→o.wp P a w K Q):MidWalk P ops Q S tl (o::l) a w:=by
 simp only [MidWalk,hw,if_true]
 exact .inl (h _ fun _ _ h1 h2=>⟨h1,h2⟩)
theorem mid_nil {tl:List Oper} {a:Act} {w:World} (h:wpList P ops Q tl a w):MidWalk P ops Q S tl [] a w:=h
def seqNB (md:Region.Mode) (ops:Array Oper):List Nat→Array Bool→Bool
 | [],listed=>(Region.ready md ops listed).isEmpty
 | i::l,listed=>decide (Region.ready md ops listed= [i]) && seqNB md ops l (listed.setIfInBounds i true)
def ordB (md:Region.Mode) (ops:Array Oper) (mid tl:List Nat):List (Nat×Bool)→Array Bool→Bool
 | [],listed=>seqNB md ops (mid++tl) listed
 | (i,true)::l,listed=>(Region.ready md ops listed).contains i && Region.free md ops listed i && tl.all (fun j=>waitsT md ops ops.size j i) && isRead (ops.getD i default).op && ordB md ops mid tl l (listed.setIfInBounds i true)
 | (i,false)::l,listed=>decide (Region.ready md ops listed= [i]) && decide (i∉tl) && ordB md ops mid tl l (listed.setIfInBounds i true)
def opsOf (l:List Oper) (is:List Nat):List Oper:=is.map fun i=>l.getD i default
theorem get_of_ready {i:Nat} {listed:Array Bool} (h:i∈Region.ready md ops listed):ops[i]?=some (ops.getD i default):=by
 obtain ⟨_,o,ho,_⟩:=mem_ready.1 h
 rw [ho]
 simp [Array.getD_eq_getD_getElem?,ho]
theorem G_tail {l:List Oper} (hops:ops=l.toArray):∀(is:List Nat) (listed:Array Bool) (a:Act) (w:World),(∀i∈is,i∈tl)→seqNB md ops is listed=true→wpList P ops Q (opsOf l is) a w→wpAnyG P md ops Q S tl is.length listed a w:=by
 intro is
 induction is with
 | nil=>exact fun listed a w _ hB h=>⟨by simpa [seqNB]using hB,h⟩
 | cons i is ih=>
  intro listed a w hm hB h
  simp only [seqNB,Bool.and_eq_true,decide_eq_true_eq]at hB
  refine ⟨fun h1=>(by rw [hB.1]at h1;cases h1),fun j hj=> ?_⟩
  have hji:j=i:=by rw [hB.1]at hj;simpa using hj
  subst hji
  have h0:=get_of_ready hj
  have hw:wpOp P ops Q j (wpList P ops Q (opsOf l is)) a w:=by
   unfold wpOp
   simp only [h0]
   have:ops.getD j default=l.getD j default:=by subst hops;simp
   rw [this]
   exact h
  exact wpOp_mono (fun a' w' h'=>⟨fun hn=>absurd (hm j (by simp)) hn,ih _ a' w' (fun k hk=>hm k (by simp [hk])) hB.2 h'⟩) hw
theorem G_mid {l:List Oper} (hops:ops=l.toArray):∀(mid:List Nat) (listed:Array Bool) (a:Act) (w:World),seqNB md ops (mid++tl) listed=true→MidWalk P ops Q S (opsOf l tl) (opsOf l mid) a w→wpAnyG P md ops Q S tl (mid.length+tl.length) listed a w:=by
 intro mid
 induction mid with
 | nil=>intro listed a w hB h;rw [List.length_nil,Nat.zero_add];exact G_tail hops tl listed a w (fun _ h=>h) (by simpa using hB) h
 | cons i mid ih=>
  intro listed a w hB h
  simp only [List.cons_append,seqNB,Bool.and_eq_true,decide_eq_true_eq]at hB
  rw [List.length_cons,Nat.add_right_comm]
  refine ⟨fun h1=>(by rw [hB.1]at h1;cases h1),fun j hj=> ?_⟩
  have hji:j=i:=by rw [hB.1]at hj;simpa using hj
  subst hji
  have h0:=get_of_ready hj
  have e:ops.getD j default=l.getD j default:=by subst hops;simp
  have hw:wpOp P ops Q j (fun a' w'=>S w'∧MidWalk P ops Q S (opsOf l tl) (opsOf l mid) a' w') a w:=by
   unfold wpOp
   simp only [h0]
   rw [e]
   exact h
  exact wpOp_mono (fun a' w' h'=>⟨fun _=>h'.1,ih _ a' w' hB.2 h'.2⟩) hw
theorem G_head {W:World} {l:List Oper} {mid:List Nat} (hops:ops=l.toArray) (hsel:Region.noSelect ops=true) (hQ:∀c (a:Act) d v w,Q (.panic c) (a.put d v) w→Q (.panic c) a w):
  ∀(hd:List (Nat×Bool)) (listed:Array Bool) (a:Act) (w:World),Closed md ops listed→ordB md ops mid tl hd listed=true→Ext W w→
   wpQuiet P ops (fun w'=>∃u:ExtOf W,w'=u.1) (fun a'=>∀w',Ext W w'→MidWalk P ops Q (Ext W) (opsOf l tl) (opsOf l mid) a' w') (opsOf l (hd.map (·.1))) a→
   wpAnyG P md ops Q (Ext W) tl (hd.length+(mid.length+tl.length)) listed a w:=by
 intro hd
 induction hd with
 | nil=>
  intro listed a w hc hB hx h
  rw [List.length_nil,Nat.zero_add]
  exact G_mid hops mid listed a w hB (h w hx)
 | cons p hd ih=>
  intro listed a w hc hB hx h
  obtain ⟨i,b⟩:=p
  rw [List.length_cons,Nat.add_right_comm]
  have e:ops.getD i default=l.getD i default:=by subst hops;simp
  obtain ⟨v,hy,hrest⟩:=yields_of_quiet (o:=l.getD i default) (rest:=opsOf l (hd.map (·.1))) h
  cases b with
  | true=>
   simp only [ordB,Bool.and_eq_true]at hB
   obtain ⟨⟨⟨⟨hr,hf⟩,ht⟩,hrd⟩,hB'⟩:=hB
   have hr':i∈Region.ready md ops listed:=by simpa using hr
   have h0:=get_of_ready hr'
   rw [e]at h0 hrd
   refine G_first (n:=ops.size) h0 (Region.noSelect_spec hsel) (fun c a w=>hQ c a _ _ w) (fun j hj=>List.all_eq_true.1 ht j hj) _ listed a w hc (Region.free_spec h0 hf) hr' ?_ hx (ih _ _ w (hc.set hr') hB' hx hrest)
   rcases hy with ⟨hw,hq⟩ | ⟨hw,hv⟩
   ·exact .inl ⟨hw,fun w' hw'=>run_read hrd (hq w' ⟨⟨w',hw'⟩,rfl⟩)⟩
   ·exact .inr ⟨hw,hv⟩
  | false=>
   simp only [ordB,Bool.and_eq_true,decide_eq_true_eq]at hB
   obtain ⟨⟨hr,hnt⟩,hB'⟩:=hB
   refine ⟨fun h1=>(by rw [hr]at h1;cases h1),fun j hj=> ?_⟩
   have hji:j=i:=by rw [hr]at hj;simpa using hj
   subst hji
   have h0:=get_of_ready hj
   rw [e]at h0
   refine wpOp_yields h0 hy ⟨⟨w,hx⟩,rfl⟩ fun w' hw'=> ?_
   obtain ⟨u,rfl⟩:=hw'
   exact ⟨fun _=>u.2,ih _ _ u.1 (hc.set hj) hB' u.2 hrest⟩
theorem any_ord {W:World} {a:Act} {w:World} {l:List Oper} (hd:List (Nat×Bool)) (mid tl:List Nat) (hB:(Region.noSelect l.toArray && ordB .any l.toArray mid tl hd (Array.replicate l.toArray.size false) && decide (hd.length+(mid.length+tl.length)=l.toArray.size))=true)
  (hQ:∀c (a:Act) d v w,Q (.panic c) (a.put d v) w→Q (.panic c) a w) (hx:Ext W w)
  (h:wpQuiet P l.toArray (fun w'=>∃u:ExtOf W,w'=u.1) (fun a'=>∀w',Ext W w'→MidWalk P l.toArray Q (Ext W) (opsOf l tl) (opsOf l mid) a' w') (opsOf l (hd.map (·.1))) a):
  wpAny P .any l.toArray Q l.toArray.size (Array.replicate l.toArray.size false) a {w with drawn:=w.drawn+1}:=by
 simp only [Bool.and_eq_true,decide_eq_true_eq]at hB
 obtain ⟨⟨hsel,hord⟩,hlen⟩:=hB
 have:=G_head (Q:=Q) (tl:=tl) (mid:=mid) (w:= {w with drawn:=w.drawn+1}) rfl hsel hQ hd _ a (fun j oj _ hl=>(by rw [getD_replicate_false]at hl;cases hl)) hord (Ext.drew hx) h
 rw [hlen]at this
 exact wpAny_of_G _ _ _ _ this
theorem wp_region_ord {W:World} {id:Nat} {a:Act} {w:World} {l:List Oper} (hd:List (Nat×Bool)) (mid tl:List Nat) (hm:P.follows .mixedOrders=true)
  (hB:(Region.noSelect l.toArray && ordB .any l.toArray mid tl hd (Array.replicate l.toArray.size false) && decide (hd.length+(mid.length+tl.length)=l.toArray.size))=true)
  (hQ:∀c (a:Act) d v w,Q (.panic c) (a.put d v) w→Q (.panic c) a w) (hx:Ext W w)
  (h:wpQuiet P l.toArray (fun w'=>∃u:ExtOf W,w'=u.1) (fun a'=>∀w',Ext W w'→MidWalk P l.toArray Q (Ext W) (opsOf l tl) (opsOf l mid) a' w') (opsOf l (hd.map (·.1))) a):
  (Code.region id l.toArray true).wp P Q a w:=
 wp_region_any hm (any_ord hd mid tl hB hQ hx h)
theorem wpIn_region_ord {W:World} {rd m id:Nat} {a:Act} {w:World} {l:List Oper} (hd:List (Nat×Bool)) (mid tl:List Nat) (hm:P.follows .mixedOrders=true)
  (hB:(Region.noSelect l.toArray && ordB .any l.toArray mid tl hd (Array.replicate l.toArray.size false) && decide (hd.length+(mid.length+tl.length)=l.toArray.size))=true) (hdf:noDefer l.toArray=true)
  (hO:∀a w,¬Q .outgrown a w) (hQ:∀c (a:Act) d v w,Q (.panic c) (a.put d v) w→Q (.panic c) a w) (hx:Ext W w)
  (h:wpQuiet P l.toArray (fun w'=>∃u:ExtOf W,w'=u.1) (fun a'=>∀w',Ext W w'→MidWalk P l.toArray Q (Ext W) (opsOf l tl) (opsOf l mid) a' w') (opsOf l (hd.map (·.1))) a):
  (Code.region id l.toArray true).wpIn (Fence.wide.inRound rd) m P Q a w:=
 wpIn_region_draw fun t=>by
  refine opsIn_of_ops hdf hO _ _ _ ?_
  simp only [Region.schedule,hm,Bool.true_or,if_true]
  exact wpAny_sound l.toArray.size t _ a _ (any_ord hd mid tl hB hQ hx h)
end
section
variable {P : Program} {ops : Array Oper} {md : Region.Mode} {Q : Exit → Act → World → Prop} {S S' : World → Prop} {tl : List Nat}
theorem G_mono (h:∀w,S w→S' w):∀(fuel:Nat) (listed:Array Bool) (a:Act) (w:World),wpAnyG P md ops Q S tl fuel listed a w→wpAnyG P md ops Q S' tl fuel listed a w:=by
 intro fuel
 induction fuel with
 | zero=>exact fun _ _ _ h=>h
 | succ fuel ih=>exact fun listed a w hh=>⟨hh.1,fun i hi=>wpOp_mono (fun a' w' h'=>⟨fun hn=>h _ (h'.1 hn),ih _ a' w' h'.2⟩) (hh.2 i hi)⟩
def OneOp (P:Program) (ops:Array Oper) (Q:Exit→Act→World→Prop) (o:Oper) (K:Act→World→Prop) (a:Act) (w:World):Prop:=
 if Region.wanted o (yielded ops a.tmps)then o.wp P a w K Q∨(o.asks P a w∧LetsOut Q)else K (a.put o.dst undef) w
def SegWalk (P:Program) (l:List Oper) (Q:Exit→Act→World→Prop) (last tl:List Oper):List (List Oper×Oper)→World→Act→Prop
 | [],W,a=>wpQuiet P l.toArray (fun w'=>∃u:ExtOf W,w'=u.1) (fun a'=>∀w',Ext W w'→wpList P l.toArray Q tl a' w') last a
 | (hd,o)::segs,W,a=>wpQuiet P l.toArray (fun w'=>∃u:ExtOf W,w'=u.1) (fun a'=>∀w',Ext W w'→OneOp P l.toArray Q o (fun a'' w''=>∃W',Ext W W'∧Ext W' w''∧SegWalk P l Q last tl segs W' a'') a' w') hd a
theorem seg_cons {l last tl:List Oper} {segs:List (List Oper×Oper)} {hd:List Oper} {o:Oper} {a:Act} {W:World}
  (h:wpQuiet P l.toArray (fun w'=>∃u:ExtOf W,w'=u.1) (fun a'=>∀w',Ext W w'→OneOp P l.toArray Q o (fun a'' w''=>∃W',Ext W W'∧Ext W' w''∧SegWalk P l Q last tl segs W' a'') a' w') hd a):SegWalk P l Q last tl ((hd,o)::segs) W a:=h
theorem seg_last {l last tl:List Oper} {a:Act} {W:World} (h:wpQuiet P l.toArray (fun w'=>∃u:ExtOf W,w'=u.1) (fun a'=>∀w',Ext W w'→wpList P l.toArray Q tl a' w') last a):SegWalk P l Q last tl [] W a:=h
theorem seg_step {l last tl:List Oper} {segs:List (List Oper×Oper)} {o:Oper} {a:Act} {W w:World} (hw:Region.wanted o (yielded l.toArray a.tmps)=true)
  (h:∀K:Act→World→Prop,(∀W' a' w',Ext W W'→Ext W' w'→SegWalk P l Q last tl segs W' a'→K a' w')→o.wp P a w K Q):
  OneOp P l.toArray Q o (fun a'' w''=>∃W',Ext W W'∧Ext W' w''∧SegWalk P l Q last tl segs W' a'') a w:=by
 unfold OneOp
 rw [if_pos hw]
 exact .inl (h _ fun W' a' w' h1 h2 h3=>⟨W',h1,h2,h3⟩)
def headB (md:Region.Mode) (ops:Array Oper) (tl:List Nat) (next:Array Bool→Bool):List (Nat×Bool)→Array Bool→Bool
 | [],listed=>next listed
 | (i,true)::l,listed=>(Region.ready md ops listed).contains i && Region.free md ops listed i && tl.all (fun j=>waitsT md ops ops.size j i) && isRead (ops.getD i default).op && headB md ops tl next l (listed.setIfInBounds i true)
 | (i,false)::l,listed=>decide (Region.ready md ops listed= [i]) && decide (i∉tl) && headB md ops tl next l (listed.setIfInBounds i true)
def segB (md:Region.Mode) (ops:Array Oper) (last:List (Nat×Bool)) (tl:List Nat):List (List (Nat×Bool)×Nat)→Array Bool→Bool
 | [],listed=>headB md ops tl (seqNB md ops tl) last listed
 | (hd,j)::segs,listed=>headB md ops tl (fun listed'=>decide (Region.ready md ops listed'= [j]) && decide (j∉tl) && segB md ops last tl segs (listed'.setIfInBounds j true)) hd listed
theorem G_quiet {W:World} {l:List Oper} (hops:ops=l.toArray) (hsel:Region.noSelect ops=true) (hQ:∀c (a:Act) d v w,Q (.panic c) (a.put d v) w→Q (.panic c) a w) {next:Array Bool→Bool} {N:Act→Prop} {n:Nat}
  (hN:∀listed a w,Closed md ops listed→next listed=true→Ext W w→N a→wpAnyG P md ops Q (Ext W) tl n listed a w):
  ∀(hd:List (Nat×Bool)) (listed:Array Bool) (a:Act) (w:World),Closed md ops listed→headB md ops tl next hd listed=true→Ext W w→
   wpQuiet P ops (fun w'=>∃u:ExtOf W,w'=u.1) N (opsOf l (hd.map (·.1))) a→wpAnyG P md ops Q (Ext W) tl (hd.length+n) listed a w:=by
 intro hd
 induction hd with
 | nil=>
  intro listed a w hc hB hx h
  rw [List.length_nil,Nat.zero_add]
  exact hN listed a w hc hB hx h
 | cons p hd ih=>
  intro listed a w hc hB hx h
  obtain ⟨i,b⟩:=p
  rw [List.length_cons,Nat.add_right_comm]
  have e:ops.getD i default=l.getD i default:=by subst hops;simp
  obtain ⟨v,hy,hrest⟩:=yields_of_quiet (o:=l.getD i default) (rest:=opsOf l (hd.map (·.1))) h
  cases b with
  | true=>
   simp only [headB,Bool.and_eq_true]at hB
   obtain ⟨⟨⟨⟨hr,hf⟩,ht⟩,hrd⟩,hB'⟩:=hB
   have hr':i∈Region.ready md ops listed:=by simpa using hr
   have h0:=get_of_ready hr'
   rw [e]at h0 hrd
   refine G_first (n:=ops.size) h0 (Region.noSelect_spec hsel) (fun c a w=>hQ c a _ _ w) (fun j hj=>List.all_eq_true.1 ht j hj) _ listed a w hc (Region.free_spec h0 hf) hr' ?_ hx (ih _ _ w (hc.set hr') hB' hx hrest)
   rcases hy with ⟨hw,hq⟩ | ⟨hw,hv⟩
   ·exact .inl ⟨hw,fun w' hw'=>run_read hrd (hq w' ⟨⟨w',hw'⟩,rfl⟩)⟩
   ·exact .inr ⟨hw,hv⟩
  | false=>
   simp only [headB,Bool.and_eq_true,decide_eq_true_eq]at hB
   obtain ⟨⟨hr,hnt⟩,hB'⟩:=hB
   refine ⟨fun h1=>(by rw [hr]at h1;cases h1),fun j hj=> ?_⟩
   have hji:j=i:=by rw [hr]at hj;simpa using hj
   subst hji
   have h0:=get_of_ready hj
   rw [e]at h0
   refine wpOp_yields h0 hy ⟨⟨w,hx⟩,rfl⟩ fun w' hw'=> ?_
   obtain ⟨u,rfl⟩:=hw'
   exact ⟨fun _=>u.2,ih _ _ u.1 (hc.set hj) hB' u.2 hrest⟩
def segLen (last:List (Nat×Bool)) (tl:List Nat):List (List (Nat×Bool)×Nat)→Nat
 | []=>last.length+tl.length
 | (hd,_)::segs=>hd.length+(segLen last tl segs+1)
theorem G_seg {l:List Oper} {last:List (Nat×Bool)} (hops:ops=l.toArray) (hsel:Region.noSelect ops=true) (hQ:∀c (a:Act) d v w,Q (.panic c) (a.put d v) w→Q (.panic c) a w):
  ∀(segs:List (List (Nat×Bool)×Nat)) (W:World) (listed:Array Bool) (a:Act) (w:World),Closed md ops listed→segB md ops last tl segs listed=true→Ext W w→
   SegWalk P l Q (opsOf l (last.map (·.1))) (opsOf l tl) (segs.map fun x=>(opsOf l (x.1.map (·.1)),l.getD x.2 default)) W a→wpAnyG P md ops Q (Ext W) tl (segLen last tl segs) listed a w:=by
 intro segs
 induction segs with
 | nil=>
  intro W listed a w hc hB hx h
  subst hops
  exact G_quiet rfl hsel hQ (next:=seqNB md l.toArray tl) (n:=tl.length) (fun listed a w _ hB hx h=>G_tail rfl tl listed a w (fun _ h=>h) hB (h w hx)) last listed a w hc hB hx h
 | cons s segs ih=>
  intro W listed a w hc hB hx h
  obtain ⟨hd,j⟩:=s
  subst hops
  refine G_quiet rfl hsel hQ (n:=segLen last tl segs+1) (fun listed a w hc hB hx h=> ?_) hd listed a w hc hB hx h
  simp only [Bool.and_eq_true,decide_eq_true_eq]at hB
  obtain ⟨⟨hr,hnt⟩,hB'⟩:=hB
  refine ⟨fun h1=>(by rw [hr]at h1;cases h1),fun k hk=> ?_⟩
  have hkj:k=j:=by rw [hr]at hk;simpa using hk
  subst hkj
  have h0:=get_of_ready hk
  have e:l.toArray.getD k default=l.getD k default:=by simp
  have hw:wpOp P l.toArray Q k (fun a'' w''=>∃W',Ext W W'∧Ext W' w''∧SegWalk P l Q (opsOf l (last.map (·.1))) (opsOf l tl) (segs.map fun x=>(opsOf l (x.1.map (·.1)),l.getD x.2 default)) W' a'') a w:=by
   unfold wpOp
   simp only [h0]
   rw [e]
   exact h w hx
  refine wpOp_mono (fun a'' w'' h'=> ?_) hw
  obtain ⟨W',h1,h2,h3⟩:=h'
  exact ⟨fun _=>h1.trans h2,G_mono (fun w hw=>h1.trans hw) _ _ _ _ (ih W' _ a'' w'' (hc.set hk) hB' h2 h3)⟩
theorem any_seg {W:World} {a:Act} {w:World} {l:List Oper} (segs:List (List (Nat×Bool)×Nat)) (last:List (Nat×Bool)) (tl:List Nat)
  (hB:(Region.noSelect l.toArray && segB .any l.toArray last tl segs (Array.replicate l.toArray.size false) && decide (segLen last tl segs=l.toArray.size))=true)
  (hQ:∀c (a:Act) d v w,Q (.panic c) (a.put d v) w→Q (.panic c) a w) (hx:Ext W w)
  (h:SegWalk P l Q (opsOf l (last.map (·.1))) (opsOf l tl) (segs.map fun x=>(opsOf l (x.1.map (·.1)),l.getD x.2 default)) W a):
  wpAny P .any l.toArray Q l.toArray.size (Array.replicate l.toArray.size false) a {w with drawn:=w.drawn+1}:=by
 simp only [Bool.and_eq_true,decide_eq_true_eq]at hB
 obtain ⟨⟨hsel,hord⟩,hlen⟩:=hB
 have:=G_seg (Q:=Q) (tl:=tl) (last:=last) (w:= {w with drawn:=w.drawn+1}) rfl hsel hQ segs W _ a (fun j oj _ hl=>(by rw [getD_replicate_false]at hl;cases hl)) hord (Ext.drew hx) h
 rw [hlen]at this
 exact wpAny_of_G _ _ _ _ this
theorem wp_region_seg {W:World} {id:Nat} {a:Act} {w:World} {l:List Oper} (segs:List (List (Nat×Bool)×Nat)) (last:List (Nat×Bool)) (tl:List Nat) (hm:P.follows .mixedOrders=true)
  (hB:(Region.noSelect l.toArray && segB .any l.toArray last tl segs (Array.replicate l.toArray.size false) && decide (segLen last tl segs=l.toArray.size))=true)
  (hQ:∀c (a:Act) d v w,Q (.panic c) (a.put d v) w→Q (.panic c) a w) (hx:Ext W w)
  (h:SegWalk P l Q (opsOf l (last.map (·.1))) (opsOf l tl) (segs.map fun x=>(opsOf l (x.1.map (·.1)),l.getD x.2 default)) W a):
  (Code.region id l.toArray true).wp P Q a w:=
 wp_region_any hm (any_seg segs last tl hB hQ hx h)
end
section
variable {P : Program} {ops : Array Oper} {md : Region.Mode} {Q : Exit → Act → World → Prop} {S : World → Prop} {tl : List Nat}
def forkB (md:Region.Mode) (ops:Array Oper) (n:Nat) (tl:List Nat) (ts:List (Nat×List Nat)) (listed:Array Bool):Bool:=
 !(Region.ready md ops listed).isEmpty && (Region.ready md ops listed).all fun i=>ts.any fun t=>decide (t.1=i) && decide (t.2.length=n) && seqNB md ops (t.2++tl) (listed.setIfInBounds i true)
theorem G_fork {l:List Oper} {n:Nat} {ts:List (Nat×List Nat)} (hops:ops=l.toArray) (listed:Array Bool) (a:Act) (w:World) (hB:forkB md ops n tl ts listed=true)
  (h:∀t∈ts,MidWalk P ops Q S (opsOf l tl) (opsOf l (t.1::t.2)) a w):wpAnyG P md ops Q S tl (n+tl.length+1) listed a w:=by
 simp only [forkB,Bool.and_eq_true,Bool.not_eq_true',List.all_eq_true,List.any_eq_true,decide_eq_true_eq]at hB
 obtain ⟨h0,hall⟩:=hB
 refine ⟨fun h1=>(by rw [h1]at h0;simp at h0),fun j hj=> ?_⟩
 obtain ⟨⟨i,r⟩,ht,⟨rfl,hn⟩,hs⟩:=hall j hj
 simp only at hn hs hj⊢
 have h0:=get_of_ready hj
 have e:ops.getD i default=l.getD i default:=by subst hops;simp
 have hw:wpOp P ops Q i (fun a' w'=>S w'∧MidWalk P ops Q S (opsOf l tl) (opsOf l r) a' w') a w:=by
  unfold wpOp
  simp only [h0]
  rw [e]
  exact h (i,r) ht
 rw [←hn]
 exact wpOp_mono (fun a' w' h'=>⟨fun _=>h'.1,G_mid hops r _ a' w' hs h'.2⟩) hw
theorem any_fork {W:World} {a:Act} {w:World} {l:List Oper} (hd:List (Nat×Bool)) (n:Nat) (ts:List (Nat×List Nat)) (tl:List Nat)
  (hB:(Region.noSelect l.toArray && headB .any l.toArray tl (forkB .any l.toArray n tl ts) hd (Array.replicate l.toArray.size false) && decide (hd.length+(n+tl.length+1)=l.toArray.size))=true)
  (hQ:∀c (a:Act) d v w,Q (.panic c) (a.put d v) w→Q (.panic c) a w) (hx:Ext W w)
  (h:wpQuiet P l.toArray (fun w'=>∃u:ExtOf W,w'=u.1) (fun a'=>∀t∈ts,∀w',Ext W w'→MidWalk P l.toArray Q (Ext W) (opsOf l tl) (opsOf l (t.1::t.2)) a' w') (opsOf l (hd.map (·.1))) a):
  wpAny P .any l.toArray Q l.toArray.size (Array.replicate l.toArray.size false) a {w with drawn:=w.drawn+1}:=by
 simp only [Bool.and_eq_true,decide_eq_true_eq]at hB
 obtain ⟨⟨hsel,hord⟩,hlen⟩:=hB
 have:=G_quiet (P:=P) (Q:=Q) (tl:=tl) (W:=W) (l:=l) rfl hsel hQ (n:=n+tl.length+1) (fun listed a w _ hB hx h=>G_fork rfl listed a w hB fun t ht=>h t ht w hx) hd _ a {w with drawn:=w.drawn+1}
  (fun j oj _ hl=>(by rw [getD_replicate_false]at hl;cases hl)) hord (Ext.drew hx) h
 rw [hlen]at this
 exact wpAny_of_G _ _ _ _ this
theorem wp_region_fork {W:World} {id:Nat} {a:Act} {w:World} {l:List Oper} (hd:List (Nat×Bool)) (n:Nat) (ts:List (Nat×List Nat)) (tl:List Nat) (hm:P.follows .mixedOrders=true)
  (hB:(Region.noSelect l.toArray && headB .any l.toArray tl (forkB .any l.toArray n tl ts) hd (Array.replicate l.toArray.size false) && decide (hd.length+(n+tl.length+1)=l.toArray.size))=true)
  (hQ:∀c (a:Act) d v w,Q (.panic c) (a.put d v) w→Q (.panic c) a w) (hx:Ext W w)
  (h:wpQuiet P l.toArray (fun w'=>∃u:ExtOf W,w'=u.1) (fun a'=>∀t∈ts,∀w',Ext W w'→MidWalk P l.toArray Q (Ext W) (opsOf l tl) (opsOf l (t.1::t.2)) a' w') (opsOf l (hd.map (·.1))) a):
  (Code.region id l.toArray true).wp P Q a w:=
 wp_region_any hm (any_fork hd n ts tl hB hQ hx h)
theorem all_two {α:Type} {p:α→Prop} {x y:α} (h1:p x) (h2:p y):∀t∈ [x,y],p t:=fun t ht=>by
 simp only [List.mem_cons,List.not_mem_nil,or_false]at ht
 rcases ht with rfl | rfl
 ·exact h1
 ·exact h2
end
def KeptOf (W:World) (S:World→Prop):Type:= {w:World//S W→S w}
instance KeptOf.inhabited (W:World) (S:World→Prop):Nonempty (KeptOf W S):=⟨⟨W,id⟩⟩
theorem KeptOf.of {W:World} {S:World→Prop} (h:S W) (u:KeptOf W S):S u.1:=u.2 h
theorem kept_mk {W w:World} {S:World→Prop} (h:S w):∃u:KeptOf W S,w=u.1:=⟨⟨w,fun _=>h⟩,rfl⟩
@[reducible] def Tr:Nat→Type
 | 0=>Unit
 | n+1=>List (Nat×Tr n)
section
variable {P : Program} {ops : Array Oper} {md : Region.Mode} {Q : Exit → Act → World → Prop} {S : World → Prop}
def trB (md:Region.Mode) (ops:Array Oper) (tl:List Nat):(n:Nat)→Tr n→Array Bool→Bool
 | 0,_,listed=>seqNB md ops tl listed
 | n+1,cs,listed=> !(Region.ready md ops listed).isEmpty && (Region.ready md ops listed).all fun i=>List.any (α:=Nat×Tr n) cs fun c=>decide (c.1=i) && decide (i∉tl) && trB md ops tl n c.2 (listed.setIfInBounds i true)
def OpThen (P:Program) (ops:Array Oper) (Q:Exit→Act→World→Prop) (S:World→Prop) (o:Oper) (R:Act→World→Prop) (a:Act) (w:World):Prop:=
 if Region.wanted o (yielded ops a.tmps)then o.wp P a w (fun a' w'=>S w'∧R a' w') Q∨(o.asks P a w∧LetsOut Q)else S w∧R (a.put o.dst undef) w
def TrWalk (P:Program) (ops:Array Oper) (Q:Exit→Act→World→Prop) (S:World→Prop) (l tl:List Oper):(n:Nat)→Tr n→Act→World→Prop
 | 0,_,a,w=>wpList P ops Q tl a w
 | n+1,cs,a,w=>∀c:Nat×Tr n,List.Mem c cs→OpThen P ops Q S (l.getD c.1 default) (TrWalk P ops Q S l tl n c.2) a w
theorem op_step {o:Oper} {R:Act→World→Prop} {a:Act} {w:World} (hw:Region.wanted o (yielded ops a.tmps)=true) (h:∀K:Act→World→Prop,(∀a' w',S w'→R a' w'→K a' w')→o.wp P a w K Q):OpThen P ops Q S o R a w:=by
 simp only [OpThen,hw,if_true]
 exact .inl (h _ fun _ _ h1 h2=>⟨h1,h2⟩)
theorem tr_nil {l tl:List Oper} {a:Act} {w:World} (h:wpList P ops Q tl a w):TrWalk P ops Q S l tl 0 () a w:=h
theorem tr_one {l tl:List Oper} {n i:Nat} {t:Tr n} {a:Act} {w:World} (h:OpThen P ops Q S (l.getD i default) (TrWalk P ops Q S l tl n t) a w):TrWalk P ops Q S l tl (n+1) [(i,t)] a w:=by
 intro c hc
 rcases List.mem_singleton.1 hc with rfl
 exact h
theorem tr_two {l tl:List Oper} {n i j:Nat} {t u:Tr n} {a:Act} {w:World} (h:OpThen P ops Q S (l.getD i default) (TrWalk P ops Q S l tl n t) a w) (h2:OpThen P ops Q S (l.getD j default) (TrWalk P ops Q S l tl n u) a w):
  TrWalk P ops Q S l tl (n+1) [(i,t),(j,u)] a w:=by
 intro c hc
 rcases List.mem_cons.1 hc with rfl | hc
 ·exact h
 ·rcases List.mem_singleton.1 hc with rfl
  exact h2
theorem G_tree {l:List Oper} {tl:List Nat} (hops:ops=l.toArray):∀(n:Nat) (t:Tr n) (listed:Array Bool) (a:Act) (w:World),trB md ops tl n t listed=true→TrWalk P ops Q S l (opsOf l tl) n t a w→wpAnyG P md ops Q S tl (n+tl.length) listed a w:=by
 intro n
 induction n with
 | zero=>
  intro _ listed a w hB h
  rw [Nat.zero_add]
  exact G_tail hops tl listed a w (fun _ h=>h) hB h
 | succ n ih=>
  intro t listed a w hB h
  simp only [trB,Bool.and_eq_true,Bool.not_eq_true',List.all_eq_true,List.any_eq_true,decide_eq_true_eq]at hB
  obtain ⟨h0,hall⟩:=hB
  rw [Nat.add_right_comm]
  refine ⟨fun h1=>(by rw [h1]at h0;simp at h0),fun j hj=> ?_⟩
  obtain ⟨c,hc,⟨rfl,hnt⟩,hB'⟩:=hall j hj
  have h0:=get_of_ready hj
  have e:ops.getD c.1 default=l.getD c.1 default:=by subst hops;simp
  have hw:wpOp P ops Q c.1 (fun a' w'=>S w'∧TrWalk P ops Q S l (opsOf l tl) n c.2 a' w') a w:=by
   unfold wpOp
   simp only [h0]
   rw [e]
   exact h c hc
  exact wpOp_mono (fun a' w' h'=>⟨fun _=>h'.1,ih _ _ a' w' hB' h'.2⟩) hw
theorem G_exactN {l:List Oper} {n:Nat} {next:Array Bool→Bool} {N:Act→World→Prop} {tl:List Nat} (hops:ops=l.toArray) (hsel:Region.noSelect ops=true) (hQ:∀c (a:Act) d v w,Q (.panic c) (a.put d v) w→Q (.panic c) a w)
  (hN:∀listed a w,next listed=true→N a w→wpAnyG P md ops Q S tl n listed a w):
  ∀(hd:List Nat) (listed:Array Bool) (a:Act) (w:World),Closed md ops listed→headB md ops tl next (hd.map fun i=>(i,true)) listed=true→S w→
   wpQuiet P ops S (fun a'=>N a' w) (opsOf l hd) a→wpAnyG P md ops Q S tl (hd.length+n) listed a w:=by
 intro hd
 induction hd with
 | nil=>
  intro listed a w hc hB hx h
  rw [List.length_nil,Nat.zero_add]
  exact hN _ _ _ hB h
 | cons i hd ih=>
  intro listed a w hc hB hx h
  rw [List.length_cons,Nat.add_right_comm]
  have e:ops.getD i default=l.getD i default:=by subst hops;simp
  obtain ⟨v,hy,hrest⟩:=yields_of_quiet (o:=l.getD i default) (rest:=opsOf l hd) h
  simp only [List.map_cons,headB,Bool.and_eq_true]at hB
  obtain ⟨⟨⟨⟨hr,hf⟩,ht⟩,hrd⟩,hB'⟩:=hB
  have hr':i∈Region.ready md ops listed:=by simpa using hr
  have h0:=get_of_ready hr'
  rw [e]at h0 hrd
  refine G_first (n:=ops.size) h0 (Region.noSelect_spec hsel) (fun c a w=>hQ c a _ _ w) (fun j hj=>List.all_eq_true.1 ht j hj) _ listed a w hc (Region.free_spec h0 hf) hr' ?_ hx (ih _ _ w (hc.set hr') hB' hx hrest)
  rcases hy with ⟨hw,hq⟩ | ⟨hw,hv⟩
  ·exact .inl ⟨hw,fun w' hw'=>run_read hrd (hq w' hw')⟩
  ·exact .inr ⟨hw,hv⟩
theorem any_tree {a:Act} {w:World} {l:List Oper} (S:World→Prop) (hd:List Nat) (n:Nat) (t:Tr n) (tl:List Nat)
  (hB:(Region.noSelect l.toArray && headB .any l.toArray tl (trB .any l.toArray tl n t) (hd.map fun i=>(i,true)) (Array.replicate l.toArray.size false) && decide (hd.length+(n+tl.length)=l.toArray.size))=true)
  (hQ:∀c (a:Act) d v w,Q (.panic c) (a.put d v) w→Q (.panic c) a w) (hx:S w.drew)
  (h:wpQuiet P l.toArray S (fun a'=>TrWalk P l.toArray Q S l (opsOf l tl) n t a' w.drew) (opsOf l hd) a):
  wpAny P .any l.toArray Q l.toArray.size (Array.replicate l.toArray.size false) a {w with drawn:=w.drawn+1}:=by
 simp only [Bool.and_eq_true,decide_eq_true_eq]at hB
 obtain ⟨⟨hsel,hord⟩,hlen⟩:=hB
 have:=G_exactN (P:=P) (Q:=Q) (S:=S) (tl:=tl) (n:=n+tl.length) (N:=fun a' w'=>TrWalk P l.toArray Q S l (opsOf l tl) n t a' w') rfl hsel hQ (fun listed a w hB h=>G_tree rfl n t listed a w hB h) hd _ a w.drew
  (fun j oj _ hl=>(by rw [getD_replicate_false]at hl;cases hl)) hord hx h
 rw [hlen]at this
 exact wpAny_of_G _ _ _ _ this
theorem wp_region_tree {id:Nat} {a:Act} {w:World} {l:List Oper} (S:World→Prop) (hd:List Nat) (n:Nat) (t:Tr n) (tl:List Nat) (hm:P.follows .mixedOrders=true)
  (hB:(Region.noSelect l.toArray && headB .any l.toArray tl (trB .any l.toArray tl n t) (hd.map fun i=>(i,true)) (Array.replicate l.toArray.size false) && decide (hd.length+(n+tl.length)=l.toArray.size))=true)
  (hQ:∀c (a:Act) d v w,Q (.panic c) (a.put d v) w→Q (.panic c) a w) (hx:S w.drew)
  (h:wpQuiet P l.toArray S (fun a'=>TrWalk P l.toArray Q S l (opsOf l tl) n t a' w.drew) (opsOf l hd) a):
  (Code.region id l.toArray true).wp P Q a w:=wp_region_any hm (any_tree S hd n t tl hB hQ hx h)
end
def KeptT (S:World→Prop):Type:= {w:World//S w}
instance KeptT.ofExt (W:World):Nonempty (KeptT (Ext W)):=⟨⟨W,Ext.refl W⟩⟩
inductive Pst where
 | one (i:Nat)
 | qu (i:Nat) (b:Bool)
section
variable {P : Program} {ops : Array Oper} {md : Region.Mode} {Q : Exit → Act → World → Prop} {tl : List Nat}
def plnB (md:Region.Mode) (ops:Array Oper) (tl:List Nat):List Pst→Array Bool→Bool
 | [],listed=>seqNB md ops tl listed
 | .one i::r,listed=>decide (Region.ready md ops listed= [i]) && decide (i∉tl) && plnB md ops tl r (listed.setIfInBounds i true)
 | .qu i b::r,listed=>headB md ops tl (plnB md ops tl r) [(i,b)] listed
def PlnWalk (P:Program) (l:List Oper) (Q:Exit→Act→World→Prop) (tl:List Oper):List Pst→(World→Prop)→Act→World→Prop
 | [],_,a,w=>wpList P l.toArray Q tl a w
 | .one i::r,S,a,w=>OneOp P l.toArray Q (l.getD i default) (fun a' w'=>∃S':World→Prop,(∀w,S' w→S w)∧S' w'∧PlnWalk P l Q tl r S' a' w') a w
 | .qu i _::r,S,a,_=>wpQuiet P l.toArray (fun w'=>∃u:KeptT S,w'=u.1) (fun a'=>∀w',S w'→PlnWalk P l Q tl r S a' w') [l.getD i default] a
theorem G_quietS {S:World→Prop} {l:List Oper} (hops:ops=l.toArray) (hsel:Region.noSelect ops=true) (hQ:∀c (a:Act) d v w,Q (.panic c) (a.put d v) w→Q (.panic c) a w) {next:Array Bool→Bool} {N:Act→Prop} {n:Nat}
  (hN:∀listed a w,Closed md ops listed→next listed=true→S w→N a→wpAnyG P md ops Q S tl n listed a w):
  ∀(hd:List (Nat×Bool)) (listed:Array Bool) (a:Act) (w:World),Closed md ops listed→headB md ops tl next hd listed=true→S w→
   wpQuiet P ops (fun w'=>∃u:KeptT S,w'=u.1) N (opsOf l (hd.map (·.1))) a→wpAnyG P md ops Q S tl (hd.length+n) listed a w:=by
 intro hd
 induction hd with
 | nil=>
  intro listed a w hc hB hx h
  rw [List.length_nil,Nat.zero_add]
  exact hN listed a w hc hB hx h
 | cons p hd ih=>
  intro listed a w hc hB hx h
  obtain ⟨i,b⟩:=p
  rw [List.length_cons,Nat.add_right_comm]
  have e:ops.getD i default=l.getD i default:=by subst hops;simp
  obtain ⟨v,hy,hrest⟩:=yields_of_quiet (o:=l.getD i default) (rest:=opsOf l (hd.map (·.1))) h
  cases b with
  | true=>
   simp only [headB,Bool.and_eq_true]at hB
   obtain ⟨⟨⟨⟨hr,hf⟩,ht⟩,hrd⟩,hB'⟩:=hB
   have hr':i∈Region.ready md ops listed:=by simpa using hr
   have h0:=get_of_ready hr'
   rw [e]at h0 hrd
   refine G_first (n:=ops.size) h0 (Region.noSelect_spec hsel) (fun c a w=>hQ c a _ _ w) (fun j hj=>List.all_eq_true.1 ht j hj) _ listed a w hc (Region.free_spec h0 hf) hr' ?_ hx (ih _ _ w (hc.set hr') hB' hx hrest)
   rcases hy with ⟨hw,hq⟩ | ⟨hw,hv⟩
   ·exact .inl ⟨hw,fun w' hw'=>run_read hrd (hq w' ⟨⟨w',hw'⟩,rfl⟩)⟩
   ·exact .inr ⟨hw,hv⟩
  | false=>
   simp only [headB,Bool.and_eq_true,decide_eq_true_eq]at hB
   obtain ⟨⟨hr,hnt⟩,hB'⟩:=hB
   refine ⟨fun h1=>(by rw [hr]at h1;cases h1),fun j hj=> ?_⟩
   have hji:j=i:=by rw [hr]at hj;simpa using hj
   subst hji
   have h0:=get_of_ready hj
   rw [e]at h0
   refine wpOp_yields h0 hy ⟨⟨w,hx⟩,rfl⟩ fun w' hw'=> ?_
   obtain ⟨u,rfl⟩:=hw'
   exact ⟨fun _=>u.2,ih _ _ u.1 (hc.set hj) hB' u.2 hrest⟩
theorem G_pln {l:List Oper} (hops:ops=l.toArray) (hsel:Region.noSelect ops=true) (hQ:∀c (a:Act) d v w,Q (.panic c) (a.put d v) w→Q (.panic c) a w):
  ∀(ps:List Pst) (S:World→Prop) (listed:Array Bool) (a:Act) (w:World),Closed md ops listed→plnB md ops tl ps listed=true→S w→
   PlnWalk P l Q (opsOf l tl) ps S a w→wpAnyG P md ops Q S tl (ps.length+tl.length) listed a w:=by
 intro ps
 induction ps with
 | nil=>
  intro S listed a w hc hB hx h
  rw [List.length_nil,Nat.zero_add]
  subst hops
  exact G_tail rfl tl listed a w (fun _ h=>h) hB h
 | cons p ps ih=>
  intro S listed a w hc hB hx h
  rw [List.length_cons,Nat.add_right_comm]
  cases p with
  | one i=>
   subst hops
   simp only [plnB,Bool.and_eq_true,decide_eq_true_eq]at hB
   obtain ⟨⟨hr,hnt⟩,hB'⟩:=hB
   refine ⟨fun h1=>(by rw [hr]at h1;cases h1),fun k hk=> ?_⟩
   have hkj:k=i:=by rw [hr]at hk;simpa using hk
   subst hkj
   have h0:=get_of_ready hk
   have e:l.toArray.getD k default=l.getD k default:=by simp
   have hw:wpOp P l.toArray Q k (fun a' w'=>∃S':World→Prop,(∀w,S' w→S w)∧S' w'∧PlnWalk P l Q (opsOf l tl) ps S' a' w') a w:=by
    unfold wpOp
    simp only [h0]
    rw [e]
    exact h
   refine wpOp_mono (fun a' w' h'=> ?_) hw
   obtain ⟨S',h1,h2,h3⟩:=h'
   exact ⟨fun _=>h1 _ h2,G_mono h1 _ _ _ _ (ih S' _ a' w' (hc.set hk) hB' h2 h3)⟩
  | qu i b=>
   subst hops
   have:=G_quietS (P:=P) (Q:=Q) (S:=S) (tl:=tl) (l:=l) rfl hsel hQ (next:=plnB md l.toArray tl ps) (n:=ps.length+tl.length) (N:=fun a'=>∀w',S w'→PlnWalk P l Q (opsOf l tl) ps S a' w')
    (fun listed a w hc hB hx h=>ih S listed a w hc hB hx (h w hx)) [(i,b)] listed a w hc hB hx h
   rw [List.length_singleton,Nat.add_comm 1]at this
   exact this
def pfkB (md:Region.Mode) (ops:Array Oper) (n:Nat) (tl:List Nat) (ts:List (Nat×List Pst)) (listed:Array Bool):Bool:=
 !(Region.ready md ops listed).isEmpty && (Region.ready md ops listed).all fun i=>ts.any fun t=>decide (t.1=i) && decide (i∉tl) && decide (t.2.length=n) && plnB md ops tl t.2 (listed.setIfInBounds i true)
def RowP (P:Program) (l:List Oper) (Q:Exit→Act→World→Prop) (tl:List Nat) (W:World) (t:Nat×List Pst) (a:Act) (w:World):Prop:=PlnWalk P l Q (opsOf l tl) (.one t.1::t.2) (Ext W) a w
theorem G_pfk {W:World} {l:List Oper} {n:Nat} {ts:List (Nat×List Pst)} (hops:ops=l.toArray) (hsel:Region.noSelect ops=true) (hQ:∀c (a:Act) d v w,Q (.panic c) (a.put d v) w→Q (.panic c) a w)
  (listed:Array Bool) (a:Act) (w:World) (hc:Closed md ops listed) (hB:pfkB md ops n tl ts listed=true) (h:∀t∈ts,RowP P l Q tl W t a w):wpAnyG P md ops Q (Ext W) tl (n+tl.length+1) listed a w:=by
 simp only [pfkB,Bool.and_eq_true,Bool.not_eq_true',List.all_eq_true,List.any_eq_true,decide_eq_true_eq]at hB
 obtain ⟨h0,hall⟩:=hB
 refine ⟨fun h1=>(by rw [h1]at h0;simp at h0),fun j hj=> ?_⟩
 obtain ⟨⟨i,ps⟩,ht,⟨⟨rfl,hnt⟩,hn⟩,hs⟩:=hall j hj
 simp only at hnt hn hs hj⊢
 have h0:=get_of_ready hj
 subst hops
 have e:l.toArray.getD i default=l.getD i default:=by simp
 have hw:wpOp P l.toArray Q i (fun a' w'=>∃S':World→Prop,(∀w,S' w→Ext W w)∧S' w'∧PlnWalk P l Q (opsOf l tl) ps S' a' w') a w:=by
  unfold wpOp
  simp only [h0]
  rw [e]
  exact h (i,ps) ht
 rw [←hn]
 refine wpOp_mono (fun a' w' h'=> ?_) hw
 obtain ⟨S',h1,h2,h3⟩:=h'
 exact ⟨fun _=>h1 _ h2,G_mono h1 _ _ _ _ (G_pln rfl hsel hQ ps S' _ a' w' (hc.set hj) hs h2 h3)⟩
theorem any_pfk {W:World} {a:Act} {w:World} {l:List Oper} (hd:List (Nat×Bool)) (n:Nat) (ts:List (Nat×List Pst)) (tl:List Nat)
  (hB:(Region.noSelect l.toArray && headB .any l.toArray tl (pfkB .any l.toArray n tl ts) hd (Array.replicate l.toArray.size false) && decide (hd.length+(n+tl.length+1)=l.toArray.size))=true)
  (hQ:∀c (a:Act) d v w,Q (.panic c) (a.put d v) w→Q (.panic c) a w) (hx:Ext W w)
  (h:wpQuiet P l.toArray (fun w'=>∃u:ExtOf W,w'=u.1) (fun a'=>∀t∈ts,∀w',Ext W w'→RowP P l Q tl W t a' w') (opsOf l (hd.map (·.1))) a):
  wpAny P .any l.toArray Q l.toArray.size (Array.replicate l.toArray.size false) a {w with drawn:=w.drawn+1}:=by
 simp only [Bool.and_eq_true,decide_eq_true_eq]at hB
 obtain ⟨⟨hsel,hord⟩,hlen⟩:=hB
 have:=G_quiet (P:=P) (Q:=Q) (tl:=tl) (W:=W) (l:=l) rfl hsel hQ (n:=n+tl.length+1) (fun listed a w hc hB hx h=>G_pfk rfl hsel hQ listed a w hc hB fun t ht=>h t ht w hx) hd _ a {w with drawn:=w.drawn+1}
  (fun j oj _ hl=>(by rw [getD_replicate_false]at hl;cases hl)) hord (Ext.drew hx) h
 rw [hlen]at this
 exact wpAny_of_G _ _ _ _ this
theorem wp_region_pfk {W:World} {id:Nat} {a:Act} {w:World} {l:List Oper} (hd:List (Nat×Bool)) (n:Nat) (ts:List (Nat×List Pst)) (tl:List Nat) (hm:P.follows .mixedOrders=true)
  (hB:(Region.noSelect l.toArray && headB .any l.toArray tl (pfkB .any l.toArray n tl ts) hd (Array.replicate l.toArray.size false) && decide (hd.length+(n+tl.length+1)=l.toArray.size))=true)
  (hQ:∀c (a:Act) d v w,Q (.panic c) (a.put d v) w→Q (.panic c) a w) (hx:Ext W w)
  (h:wpQuiet P l.toArray (fun w'=>∃u:ExtOf W,w'=u.1) (fun a'=>∀t∈ts,∀w',Ext W w'→RowP P l Q tl W t a' w') (opsOf l (hd.map (·.1))) a):
  (Code.region id l.toArray true).wp P Q a w:=
 wp_region_any hm (any_pfk hd n ts tl hB hQ hx h)
theorem pln_one {l tl:List Oper} {r:List Pst} {i:Nat} {o:Oper} (ho:l.getD i default=o) {S:World→Prop} {a:Act} {w:World} (hw:Region.wanted o (yielded l.toArray a.tmps)=true)
  (h:∀K:Act→World→Prop,(∀(S':World→Prop) a' w',(∀w,S' w→S w)→S' w'→PlnWalk P l Q tl r S' a' w'→K a' w')→o.wp P a w K Q):PlnWalk P l Q tl (.one i::r) S a w:=by
 subst ho
 unfold PlnWalk OneOp
 rw [if_pos hw]
 exact .inl (h _ fun S' a' w' h1 h2 h3=>⟨S',h1,h2,h3⟩)
theorem pln_qu {l tl:List Oper} {r:List Pst} {i:Nat} {b:Bool} {o:Oper} (ho:l.getD i default=o) {S:World→Prop} {a:Act} {w:World}
  (h:wpQuiet P l.toArray (fun w'=>∃u:KeptT S,w'=u.1) (fun a'=>∀w',S w'→PlnWalk P l Q tl r S a' w') [o] a):PlnWalk P l Q tl (.qu i b::r) S a w:=by
 subst ho;exact h
theorem pln_nil {l tl:List Oper} {S:World→Prop} {a:Act} {w:World} (h:wpList P l.toArray Q tl a w):PlnWalk P l Q tl [] S a w:=h
end
def isRead2:Op→Bool
 | .call c=>match c.callee with
  | .builtin .len=>true
  | _=>false
 | op=>isRead op
theorem run_read2 {P:Program} {C:World→Prop} {o:Oper} {ρ:Operand→Value} {w:World} {v:Value} (h:isRead2 o.op=true) (hq:Oper.quietUpon P C w v ((execOp ρ o).run P w)):(execOp ρ o).run P w= .ok (.value v) w:=by
 by_cases hc:∃c,o.op= .call c∧c.callee= .builtin .len
 ·obtain ⟨c,h1,h2⟩:=hc
  have e:execOp ρ o=(Builtin.len_ c.argTypes o.type (c.args.map ρ) >>=fun x=>pure (Next.value x)):=by
   unfold execOp
   rw [h1]
   simp only [resolve,h2,invoke,builtin,pure_bind]
  rw [e]at hq⊢
  exact run_v hq
 ·refine run_read ?_ hq
  obtain ⟨dst,op,ty,pos,aft,gd⟩:=o
  cases op <;>first
   | exact h
   | (rename_i c
      exfalso
      refine hc ⟨c,rfl,?_⟩
      simp only [isRead2]at h
      split at h
      ·assumption
      ·cases h)
def rdB (md:Region.Mode) (ops:Array Oper) (tl:List Nat) (next:Array Bool→Bool):List Nat→Array Bool→Bool
 | [],listed=>next listed
 | i::l,listed=>(Region.ready md ops listed).contains i && Region.free md ops listed i && tl.all (fun j=>waitsT md ops ops.size j i) && isRead2 (ops.getD i default).op && rdB md ops tl next l (listed.setIfInBounds i true)
inductive Gp where
 | tl
 | rd (is:List Nat) (r:Gp)
 | one (i:Nat) (r:Gp)
 | fk (i:Nat) (r:Gp) (j:Nat) (u:Gp)
 | fk3 (i:Nat) (r:Gp) (j:Nat) (u:Gp) (k:Nat) (v:Gp)
 | bar (tl2:List Nat) (r:Gp)
 | wk (tl2:List Nat) (r:Gp)
def gpLen:Gp→List Nat→Nat
 | .tl,tl=>tl.length
 | .rd is r,tl=>is.length+gpLen r tl
 | .one _ r,tl=>gpLen r tl+1
 | .fk _ r _ _,tl=>gpLen r tl+1
 | .fk3 _ r _ _ _ _,tl=>gpLen r tl+1
 | .bar tl2 r,_=>gpLen r tl2
 | .wk tl2 r,_=>gpLen r tl2
section
variable {P : Program} {ops : Array Oper} {md : Region.Mode} {Q : Exit → Act → World → Prop} {tl : List Nat}
def gpB (md:Region.Mode) (ops:Array Oper):Gp→List Nat→Array Bool→Bool
 | .tl,tl,listed=>seqNB md ops tl listed
 | .rd is r,tl,listed=>rdB md ops tl (fun l=>gpB md ops r tl l) is listed
 | .one i r,tl,listed=>decide (Region.ready md ops listed= [i]) && decide (i∉tl) && gpB md ops r tl (listed.setIfInBounds i true)
 | .fk i r j u,tl,listed=>decide (Region.ready md ops listed= [i,j]) && decide (i∉tl) && decide (j∉tl) && decide (gpLen r tl=gpLen u tl) && gpB md ops r tl (listed.setIfInBounds i true) && gpB md ops u tl (listed.setIfInBounds j true)
 | .fk3 i r j u k v,tl,listed=>decide (Region.ready md ops listed= [i,j,k]) && decide (i∉tl) && decide (j∉tl) && decide (k∉tl) && decide (gpLen r tl=gpLen u tl) && decide (gpLen r tl=gpLen v tl) && gpB md ops r tl (listed.setIfInBounds i true) && gpB md ops u tl (listed.setIfInBounds j true) && gpB md ops v tl (listed.setIfInBounds k true)
 | .bar tl2 r,tl,listed=>(List.range ops.size).all (fun i=>listed.getD i false || decide (i∈tl)) && gpB md ops r tl2 listed
 | .wk tl2 r,_,listed=>gpB md ops r tl2 listed
def GpWalk (P:Program) (l:List Oper) (Q:Exit→Act→World→Prop):Gp→List Nat→(World→Prop)→Act→World→Prop
 | .tl,tl,_,a,w=>wpList P l.toArray Q (opsOf l tl) a w
 | .rd is r,tl,S,a,w=>wpQuiet P l.toArray S (fun a'=>GpWalk P l Q r tl S a' w) (opsOf l is) a
 | .one i r,tl,S,a,w=>OneOp P l.toArray Q (l.getD i default) (fun a' w'=>∃S':World→Prop,(∀w,S' w→S w)∧S' w'∧GpWalk P l Q r tl S' a' w') a w
 | .fk i r j u, tl, S, a, w => OneOp P l.toArray Q (l.getD i default) (fun a' w' => ∃ S' : World → Prop, (∀ w, S' w → S w) ∧ S' w' ∧ GpWalk P l Q r tl S' a' w') a w ∧
   OneOp P l.toArray Q (l.getD j default) (fun a' w'=>∃S':World→Prop,(∀w,S' w→S w)∧S' w'∧GpWalk P l Q u tl S' a' w') a w
 | .fk3 i r j u k v, tl, S, a, w => OneOp P l.toArray Q (l.getD i default) (fun a' w' => ∃ S' : World → Prop, (∀ w, S' w → S w) ∧ S' w' ∧ GpWalk P l Q r tl S' a' w') a w ∧
   OneOp P l.toArray Q (l.getD j default) (fun a' w'=>∃S':World→Prop,(∀w,S' w→S w)∧S' w'∧GpWalk P l Q u tl S' a' w') a w∧
   OneOp P l.toArray Q (l.getD k default) (fun a' w'=>∃S':World→Prop,(∀w,S' w→S w)∧S' w'∧GpWalk P l Q v tl S' a' w') a w
 | .bar tl2 r,_,_,a,w=>∃S2:World→Prop,S2 w∧GpWalk P l Q r tl2 S2 a w
 | .wk tl2 r,_,S,a,w=>(∀w,S w)∧∃S2:World→Prop,S2 w∧GpWalk P l Q r tl2 S2 a w
theorem G_wk {S S2:World→Prop} {tl2:List Nat} (hS:∀w,S w):∀(fuel:Nat) (listed:Array Bool) (a:Act) (w:World),wpAnyG P md ops Q S2 tl2 fuel listed a w→wpAnyG P md ops Q S tl fuel listed a w:=by
 intro fuel
 induction fuel with
 | zero=>exact fun _ _ _ h=>h
 | succ fuel ih=>exact fun listed a w h=>⟨h.1,fun i hi=>wpOp_mono (fun a' w' h'=>⟨fun _=>hS _,ih _ a' w' h'.2⟩) (h.2 i hi)⟩
theorem G_bar {S S2:World→Prop} {tl2:List Nat}:∀(fuel:Nat) (listed:Array Bool) (a:Act) (w:World),(∀i,i < ops.size→listed.getD i false=false→i∈tl)→wpAnyG P md ops Q S2 tl2 fuel listed a w→wpAnyG P md ops Q S tl fuel listed a w:=by
 intro fuel
 induction fuel with
 | zero=>exact fun _ _ _ _ h=>h
 | succ fuel ih=>
  intro listed a w hall h
  refine ⟨h.1,fun i hi=>wpOp_mono (fun a' w' h'=>⟨fun hn=> ?_,ih _ a' w' (fun j hj hl=> ?_) h'.2⟩) (h.2 i hi)⟩
  ·obtain ⟨h1,o,h2,_⟩:=mem_ready.1 hi
   exact absurd (hall i (Array.getElem?_eq_some_iff.1 h2).1 (by rw [getD_both h1])) hn
  ·refine hall j hj ?_
   by_cases e:i=j
   ·subst e
    obtain ⟨h1,_⟩:=mem_ready.1 hi
    rw [getD_both h1]
   ·rwa [getD_set_ne false e]at hl
theorem G_exactC {S:World→Prop} {l:List Oper} {n:Nat} {next:Array Bool→Bool} {N:Act→World→Prop} (hops:ops=l.toArray) (hsel:Region.noSelect ops=true) (hQ:∀c (a:Act) d v w,Q (.panic c) (a.put d v) w→Q (.panic c) a w)
  (hN:∀listed a w,Closed md ops listed→next listed=true→S w→N a w→wpAnyG P md ops Q S tl n listed a w):
  ∀(hd:List Nat) (listed:Array Bool) (a:Act) (w:World),Closed md ops listed→rdB md ops tl next hd listed=true→S w→
   wpQuiet P ops S (fun a'=>N a' w) (opsOf l hd) a→wpAnyG P md ops Q S tl (hd.length+n) listed a w:=by
 intro hd
 induction hd with
 | nil=>
  intro listed a w hc hB hx h
  rw [List.length_nil,Nat.zero_add]
  exact hN _ _ _ hc hB hx h
 | cons i hd ih=>
  intro listed a w hc hB hx h
  rw [List.length_cons,Nat.add_right_comm]
  have e:ops.getD i default=l.getD i default:=by subst hops;simp
  obtain ⟨v,hy,hrest⟩:=yields_of_quiet (o:=l.getD i default) (rest:=opsOf l hd) h
  simp only [rdB,Bool.and_eq_true]at hB
  obtain ⟨⟨⟨⟨hr,hf⟩,ht⟩,hrd⟩,hB'⟩:=hB
  have hr':i∈Region.ready md ops listed:=by simpa using hr
  have h0:=get_of_ready hr'
  rw [e]at h0 hrd
  refine G_first (n:=ops.size) h0 (Region.noSelect_spec hsel) (fun c a w=>hQ c a _ _ w) (fun j hj=>List.all_eq_true.1 ht j hj) _ listed a w hc (Region.free_spec h0 hf) hr' ?_ hx (ih _ _ w (hc.set hr') hB' hx hrest)
  rcases hy with ⟨hw,hq⟩ | ⟨hw,hv⟩
  ·exact .inl ⟨hw,fun w' hw'=>run_read2 hrd (hq w' hw')⟩
  ·exact .inr ⟨hw,hv⟩
theorem G_oneC {S:World→Prop} {l:List Oper} {n k:Nat} {r:Gp} (hops:ops=l.toArray) {listed:Array Bool} {a:Act} {w:World} (hk:k∈Region.ready md ops listed)
  (ih:∀(S:World→Prop) (a:Act) (w:World),S w→GpWalk P l Q r tl S a w→wpAnyG P md ops Q S tl n (listed.setIfInBounds k true) a w)
  (h:OneOp P l.toArray Q (l.getD k default) (fun a' w'=>∃S':World→Prop,(∀w,S' w→S w)∧S' w'∧GpWalk P l Q r tl S' a' w') a w):
  wpOp P ops Q k (fun a' w'=>(k∉tl→S w')∧wpAnyG P md ops Q S tl n (listed.setIfInBounds k true) a' w') a w:=by
 subst hops
 have h0:=get_of_ready hk
 have e:l.toArray.getD k default=l.getD k default:=by simp
 have hw:wpOp P l.toArray Q k (fun a' w'=>∃S':World→Prop,(∀w,S' w→S w)∧S' w'∧GpWalk P l Q r tl S' a' w') a w:=by
  unfold wpOp
  simp only [h0]
  rw [e]
  exact h
 refine wpOp_mono (fun a' w' h'=> ?_) hw
 obtain ⟨S',h1,h2,h3⟩:=h'
 exact ⟨fun _=>h1 _ h2,G_mono h1 _ _ _ _ (ih S' a' w' h2 h3)⟩
theorem G_gp {l:List Oper} (hops:ops=l.toArray) (hsel:Region.noSelect ops=true) (hQ:∀c (a:Act) d v w,Q (.panic c) (a.put d v) w→Q (.panic c) a w):
  ∀(p:Gp) (tl:List Nat) (S:World→Prop) (listed:Array Bool) (a:Act) (w:World),Closed md ops listed→gpB md ops p tl listed=true→S w→
   GpWalk P l Q p tl S a w→wpAnyG P md ops Q S tl (gpLen p tl) listed a w:=by
 intro p
 induction p with
 | tl=>
  intro tl S listed a w hc hB hx h
  exact G_tail hops tl listed a w (fun _ h=>h) hB (by subst hops;exact h)
 | rd is r ih=>
  intro tl S listed a w hc hB hx h
  exact G_exactC hops hsel hQ (next:=fun l=>gpB md ops r tl l) (N:=fun a' w'=>GpWalk P l Q r tl S a' w') (fun listed a w hc hB hx h=>ih tl S listed a w hc hB hx h) is listed a w hc hB hx (by subst hops;exact h)
 | one i r ih=>
  intro tl S listed a w hc hB hx h
  simp only [gpB,Bool.and_eq_true,decide_eq_true_eq]at hB
  obtain ⟨⟨hr,hnt⟩,hB'⟩:=hB
  refine ⟨fun h1=>(by rw [hr]at h1;cases h1),fun k hk=> ?_⟩
  have hkj:k=i:=by rw [hr]at hk;simpa using hk
  subst hkj
  exact G_oneC hops hk (fun S a w hx h=>ih tl S _ a w (hc.set hk) hB' hx h) h
 | fk i r j u ih1 ih2=>
  intro tl S listed a w hc hB hx h
  simp only [gpB,Bool.and_eq_true,decide_eq_true_eq]at hB
  obtain ⟨⟨⟨⟨⟨hr,hn1⟩,hn2⟩,hl⟩,hB1⟩,hB2⟩:=hB
  refine ⟨fun h1=>(by rw [hr]at h1;cases h1),fun k hk=> ?_⟩
  have hkj:k=i∨k=j:=by rw [hr]at hk;simpa using hk
  rcases hkj with rfl | rfl
  ·exact G_oneC hops hk (fun S a w hx h=>ih1 tl S _ a w (hc.set hk) hB1 hx h) h.1
  ·refine G_oneC hops hk (fun S a w hx h=> ?_) h.2
   rw [hl]
   exact ih2 tl S _ a w (hc.set hk) hB2 hx h
 | fk3 i r j u k v ih1 ih2 ih3=>
  intro tl S listed a w hc hB hx h
  simp only [gpB,Bool.and_eq_true,decide_eq_true_eq]at hB
  obtain ⟨⟨⟨⟨⟨⟨⟨⟨hr,hn1⟩,hn2⟩,hn3⟩,hl⟩,hl2⟩,hB1⟩,hB2⟩,hB3⟩:=hB
  refine ⟨fun h1=>(by rw [hr]at h1;cases h1),fun m hm=> ?_⟩
  have hmj:m=i∨m=j∨m=k:=by rw [hr]at hm;simpa using hm
  rcases hmj with rfl | rfl | rfl
  ·exact G_oneC hops hm (fun S a w hx h=>ih1 tl S _ a w (hc.set hm) hB1 hx h) h.1
  ·refine G_oneC hops hm (fun S a w hx h=> ?_) h.2.1
   rw [hl]
   exact ih2 tl S _ a w (hc.set hm) hB2 hx h
  ·refine G_oneC hops hm (fun S a w hx h=> ?_) h.2.2
   rw [hl2]
   exact ih3 tl S _ a w (hc.set hm) hB3 hx h
 | bar tl2 r ih=>
  intro tl S listed a w hc hB hx h
  simp only [gpB,Bool.and_eq_true,List.all_eq_true,List.mem_range,Bool.or_eq_true,decide_eq_true_eq]at hB
  obtain ⟨hall,hB'⟩:=hB
  obtain ⟨S2,h2,h3⟩:=h
  exact G_bar _ listed a w (fun i hi hl=>(hall i hi).resolve_left (by rw [hl];decide)) (ih tl2 S2 listed a w hc hB' h2 h3)
 | wk tl2 r ih=>
  intro tl S listed a w hc hB hx h
  obtain ⟨hS,S2,h2,h3⟩:=h
  exact G_wk hS _ listed a w (ih tl2 S2 listed a w hc hB h2 h3)
theorem any_gp {a:Act} {w:World} {l:List Oper} (S:World→Prop) (p:Gp) (tl:List Nat)
  (hB:(Region.noSelect l.toArray && gpB .any l.toArray p tl (Array.replicate l.toArray.size false) && decide (gpLen p tl=l.toArray.size))=true)
  (hQ:∀c (a:Act) d v w,Q (.panic c) (a.put d v) w→Q (.panic c) a w) (hx:S w.drew) (h:GpWalk P l Q p tl S a w.drew):
  wpAny P .any l.toArray Q l.toArray.size (Array.replicate l.toArray.size false) a {w with drawn:=w.drawn+1}:=by
 simp only [Bool.and_eq_true,decide_eq_true_eq]at hB
 obtain ⟨⟨hsel,hord⟩,hlen⟩:=hB
 have:=G_gp (P:=P) (Q:=Q) (l:=l) rfl hsel hQ p tl S _ a w.drew (fun j oj _ hl=>(by rw [getD_replicate_false]at hl;cases hl)) hord hx h
 rw [hlen]at this
 exact wpAny_of_G _ _ _ _ this
theorem wp_region_gp {id:Nat} {a:Act} {w:World} {l:List Oper} (S:World→Prop) (p:Gp) (tl:List Nat) (hm:P.follows .mixedOrders=true)
  (hB:(Region.noSelect l.toArray && gpB .any l.toArray p tl (Array.replicate l.toArray.size false) && decide (gpLen p tl=l.toArray.size))=true)
  (hQ:∀c (a:Act) d v w,Q (.panic c) (a.put d v) w→Q (.panic c) a w) (hx:S w.drew) (h:GpWalk P l Q p tl S a w.drew):
  (Code.region id l.toArray true).wp P Q a w:=wp_region_any hm (any_gp S p tl hB hQ hx h)
theorem gp_rd {l:List Oper} {is:List Nat} {r:Gp} {S:World→Prop} {a:Act} {w:World} (h:wpQuiet P l.toArray S (fun a'=>GpWalk P l Q r tl S a' w) (opsOf l is) a):GpWalk P l Q (.rd is r) tl S a w:=h
theorem gp_one {l:List Oper} {r:Gp} {i:Nat} {o:Oper} (ho:l.getD i default=o) {S:World→Prop} {a:Act} {w:World} (hw:Region.wanted o (yielded l.toArray a.tmps)=true)
  (h:∀K:Act→World→Prop,(∀(S':World→Prop) a' w',(∀w,S' w→S w)→S' w'→GpWalk P l Q r tl S' a' w'→K a' w')→o.wp P a w K Q):GpWalk P l Q (.one i r) tl S a w:=by
 subst ho
 unfold GpWalk OneOp
 rw [if_pos hw]
 exact .inl (h _ fun S' a' w' h1 h2 h3=>⟨S',h1,h2,h3⟩)
theorem gp_wk {l:List Oper} {r:Gp} {tl2:List Nat} {S:World→Prop} {a:Act} {w:World} (hS:∀w,S w) (S2:World→Prop) (h1:S2 w) (h2:GpWalk P l Q r tl2 S2 a w):GpWalk P l Q (.wk tl2 r) tl S a w:=⟨hS,S2,h1,h2⟩
theorem gp_tl {l:List Oper} {S:World→Prop} {a:Act} {w:World} (h:wpList P l.toArray Q (opsOf l tl) a w):GpWalk P l Q .tl tl S a w:=h
end
end Go.Proofs.Ytemmjmplhknemaa
