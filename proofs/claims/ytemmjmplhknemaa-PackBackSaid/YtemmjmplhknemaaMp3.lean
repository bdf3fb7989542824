/- Merged by program (merge.py) out of: RegT. -/
import Derived.StillTail
import Derived.RangeFuncCalls
import Derived.OwnWalkIn
import Derived.Test.YtemmjmplhknemaaMp1
set_option linter.unusedSimpArgs false
set_option linter.unusedVariables false
set_option maxRecDepth 100000
set_option maxHeartbeats 16000000
namespace Go.Proofs.Ytemmjmplhknemaa
open Go.RowKit
section
variable {P : Program} {ops : Array Oper} {C : World → Prop} {md : Region.Mode}
def AnyHead (P:Program) (md:Region.Mode) (ops:Array Oper) (C:World→Prop) (n:Nat) (L:Array Bool→Act→Prop):Nat→Array Bool→Act→Prop
 | 0,listed,a=>L listed a
 | f + 1, listed, a => Region.ready md ops listed ≠ [] ∧ ∀ i ∈ Region.ready md ops listed, i < n ∧
   ∃o v,ops[i]?=some o∧YieldsIn P ops C o v a∧AnyHead P md ops C n L f (listed.setIfInBounds i true) (a.put o.dst v)
theorem wpOp_yields {Q:Exit→Act→World→Prop} {i:Nat} {o:Oper} {v:Value} {a:Act} {K:Act→World→Prop} {w:World} (ho:ops[i]?=some o) (hy:YieldsIn P ops C o v a) (hw:C w)
  (h:∀w',C w'→K (a.put o.dst v) w'):wpOp P ops Q i K a w:=
 wpOp_of_qOp (K:=fun a'=>a'=a.put o.dst v) hw (fun a' w' hw' e=>e ▸ h w' hw') (hy.qOp ho rfl)
theorem AnyHead.sound {n g:Nat} {L:Array Bool→Act→Prop} {Q:Exit→Act→World→Prop} (hL:∀listed a w,C w→L listed a→wpAny P md ops Q g listed a w):
  ∀(f:Nat) (listed:Array Bool) (a:Act) (w:World),C w→AnyHead P md ops C n L f listed a→wpAny P md ops Q (f+g) listed a w:=by
 intro f
 induction f with
 | zero=>intro listed a w hw h;rw [Nat.zero_add];exact hL _ _ _ hw h
 | succ f ih=>
  intro listed a w hw h
  rw [show f+1+g=(f+g)+1 by omega]
  refine ⟨fun e=>absurd e h.1,fun i hi=> ?_⟩
  obtain ⟨_,o,v,ho,hy,hr⟩:=h.2 i hi
  exact wpOp_yields ho hy hw fun w' hw'=>ih _ _ _ hw' hr
theorem YieldsIn.behind {o o':Oper} {v u:Value} {a:Act} (hs:∀cs b,o.op≠ .select cs b) (hn:∀d,o'.dst=some d→d∉o.looksAt ops):YieldsIn P ops C o v (a.put o'.dst u)↔YieldsIn P ops C o v a:=
 ⟨fun h=>h.of_same (execOp_put o hs a o'.dst u hn).symm (wanted_put o a o'.dst u hn).symm,fun h=>h.of_same (execOp_put o hs a o'.dst u hn) (wanted_put o a o'.dst u hn)⟩
theorem AnyHead.first {n i:Nat} {o:Oper} {v:Value} {L:Array Bool→Act→Prop} (ho:ops[i]?=some o) (hsel:∀(j:Nat) (o:Oper) cs b,ops[j]?=some o→o.op≠ .select cs b)
  (hs:Region.sinkB md ops n=true) (hc:Region.chainB md ops n=true) (hn:n < ops.size) (hin:i < n) (hL:∀listed a,L listed a→∀j∈Region.ready md ops listed,n≤j):
  ∀(f:Nat) (listed:Array Bool) (a:Act),HeadInv md ops n listed→
   (∀j oj,ops[j]?=some oj→j≠i→listed.getD j true=false→(∀e∈oj.after,Region.binds md e=true→e.on≠i)→o.apart ops oj=true)→
   i∈Region.ready md ops listed→YieldsIn P ops C o v a→AnyHead P md ops C n L f (listed.setIfInBounds i true) (a.put o.dst v)→AnyHead P md ops C n L (f+1) listed a:=by
 intro f
 induction f with
 | zero=>
  intro listed a inv hfree hr hy H
  have hun:=(mem_ready.1 hr).1
  refine ⟨fun e=>(by rw [e]at hr;cases hr),fun j hj=> ?_⟩
  have hjn:j < n:=Nat.lt_of_not_le fun h=>tail_waits hs hc hn inv _ i rfl hin hun j h hj
  by_cases e:j=i
  ·subst e;exact ⟨hjn,o,v,ho,hy,H⟩
  ·have:=hL _ _ H j (ready_mono hj e)
   omega
 | succ f ih=>
  intro listed a inv hfree hr hy H
  have hun:=(mem_ready.1 hr).1
  refine ⟨fun e=>(by rw [e]at hr;cases hr),fun j hj=> ?_⟩
  have hjn:j < n:=Nat.lt_of_not_le fun h=>tail_waits hs hc hn inv _ i rfl hin hun j h hj
  refine ⟨hjn,?_⟩
  by_cases e:j=i
  ·subst e;exact ⟨o,v,ho,hy,H⟩
  obtain ⟨_,oj,u,hoj,hyj,hrest⟩:=H.2 j (ready_mono hj e)
  obtain ⟨hjun,oj',hoj',hall⟩:=mem_ready.1 hj
  obtain rfl:oj'=oj:=Option.some.inj (hoj'.symm.trans hoj)
  have hnot:∀d∈oj'.after,Region.binds md d=true→d.on≠i:=fun d hd hb hon=>by
   have h1:=hall d hd hb
   rw [hon,getD_both hun]at h1
   cases h1
  obtain ⟨a1,a2,a3⟩:=Oper.apart_spec (hfree j oj' hoj e hjun hnot)
  refine ⟨oj',u,hoj,(YieldsIn.behind (hsel j oj' · · hoj) a1).1 hyj,?_⟩
  refine ih (listed.setIfInBounds j true) _ (inv.set hj hjn) (fun k ok hk hki hun' hno=> ?_) (ready_mono hr (Ne.symm e)) ((YieldsIn.behind (hsel i o · · ho) a3).2 hy) ?_
  ·refine hfree k ok hk hki ?_ hno
   by_cases h:j=k
   ·subst h;exact hjun
   ·rw [getD_set_ne true h]at hun';exact hun'
  ·rw [Array.setIfInBounds_comm _ _ e,←Act.put_comm a v u a2]
   exact hrest
theorem yields_of_quiet {Q:Act→Prop} {a:Act} {o:Oper} {rest:List Oper} (h:wpQuiet P ops C Q (o::rest) a):∃v,YieldsIn P ops C o v a∧wpQuiet P ops C Q rest (a.put o.dst v):=by
 by_cases hw:Region.wanted o (yielded ops a.tmps)=true
 ·simp only [wpQuiet,hw,if_true]at h
  obtain ⟨v,h1,h2⟩:=h
  exact ⟨v,.inl ⟨hw,h1⟩,h2⟩
 ·simp only [wpQuiet,hw]at h
  exact ⟨undef,.inr ⟨by simpa using hw,rfl⟩,h⟩
theorem AnyHead.lex {n g:Nat} {Q:Act→Prop} (hsel:Region.noSelect ops=true) (hs:Region.sinkB md ops n=true) (hc:Region.chainB md ops n=true) (hn:n < ops.size):
  ∀(l:List Oper) (k:Nat) (listed:Array Bool) (a:Act),(∀j,j < l.length→l[j]?=ops[k+j]?)→k+l.length=n→HeadInv md ops n listed→
  Region.lexHead md ops g l.length k listed=true→wpQuiet P ops C Q l a→AnyHead P md ops C n (fun listed' a'=>Region.seqB md ops g n listed'=true∧Q a') l.length listed a:=by
 intro l
 induction l with
 | nil=>
  intro k listed a _ hk _ hB h
  obtain rfl:k=n:=by simpa using hk
  exact ⟨by simpa [Region.lexHead]using hB,h⟩
 | cons o l ih=>
  intro k listed a hl hk inv hB h
  have h0:ops[k]?=some o:=by simpa using (hl 0 (by simp)).symm
  simp only [List.length_cons,Region.lexHead,Bool.and_eq_true]at hB
  obtain ⟨⟨hr,hf⟩,hB'⟩:=hB
  have hkn:k < n:=by simp only [List.length_cons]at hk;omega
  have hr':k∈Region.ready md ops listed:=by simpa using hr
  obtain ⟨v,hy,hK⟩:=yields_of_quiet h
  exact AnyHead.first h0 (Region.noSelect_spec hsel) hs hc hn hkn (fun listed' a' hL=>seqB_ready hL.1) l.length listed a inv (Region.free_spec h0 hf) hr' hy
   (ih (k+1) _ _ (fun j hj=>by have:=hl (j+1) (by simp;omega);simpa [Nat.add_assoc,Nat.add_comm 1 j]using this) (by simp only [List.length_cons]at hk;omega) (inv.set hr' hkn) hB' hK)
theorem any_ext_tail {W:World} {Q:Exit→Act→World→Prop} {a:Act} {w:World} {l:List Oper} (n:Nat) (hB:Region.lexTailB .any l.toArray n=true) (hx:Ext W w)
  (h:wpQuiet P l.toArray (fun w'=>∃u:ExtOf W,w'=u.1) (fun a'=>∀w',Ext W w'→wpList P l.toArray Q (l.drop n) a' w') (l.take n) a):
  wpAny P .any l.toArray Q l.toArray.size (Array.replicate l.toArray.size false) a {w with drawn:=w.drawn+1}:=by
 simp only [Region.lexTailB,Bool.and_eq_true,decide_eq_true_eq]at hB
 obtain ⟨⟨⟨⟨hsel,hn⟩,hs⟩,hc⟩,hlex⟩:=hB
 have hn':n < l.length:=by simpa using hn
 have htl:(l.take n).length=n:=by simp;omega
 have hdl:(l.drop n).length=l.toArray.size - n:=by simp
 have inv0:HeadInv .any l.toArray n (Array.replicate l.toArray.size false):=
  ⟨by simp,fun j oj _ hl=>(by rw [getD_replicate_false]at hl;cases hl),fun t _ ht=>getD_in (by simpa using ht) (getD_replicate_false _ _)⟩
 have H:=AnyHead.lex (C:=fun w'=>∃u:ExtOf W,w'=u.1) (md:= .any) (g:=l.toArray.size - n) hsel hs hc hn (l.take n) 0 _ a (fun j hj=>by
  have hj':j < n:=by rw [htl]at hj;exact hj
  simp [hj']) (by simpa using htl) inv0 (by rw [htl];exact hlex) h
 have:=AnyHead.sound (Q:=Q) (g:=l.toArray.size - n) (fun listed a' w' hw hL=>by
  obtain ⟨h1,h2⟩:=hL
  obtain ⟨u,rfl⟩:=hw
  have h3:=wpAny_of_seq (md:= .any) (l.drop n) n listed a' u.1 (fun j=>by simp) (by rw [hdl];exact h1) (h2 _ u.2)
  rw [hdl]at h3
  exact h3) _ _ _ _ ⟨⟨_,Ext.drew hx⟩,rfl⟩ H
 rw [htl]at this
 have e:n+(l.toArray.size - n)=l.toArray.size:=by omega
 rw [e]at this
 exact this
theorem wp_region_ext_tail {W:World} {id:Nat} {Q:Exit→Act→World→Prop} {a:Act} {w:World} {l:List Oper} (n:Nat) (hm:P.follows .mixedOrders=true) (hB:Region.lexTailB .any l.toArray n=true) (hx:Ext W w)
  (h:wpQuiet P l.toArray (fun w'=>∃u:ExtOf W,w'=u.1) (fun a'=>∀w',Ext W w'→wpList P l.toArray Q (l.drop n) a' w') (l.take n) a):(Code.region id l.toArray true).wp P Q a w:=
 wp_region_any hm (any_ext_tail n hB hx h)
def noDefer (ops:Array Oper):Bool:=ops.all fun o=>match o.op with | .defer _=>false | _=>true
theorem noDefer_spec (h:noDefer ops=true) {i:Nat} {o:Oper} (ho:ops[i]?=some o):∀c,o.op≠ .defer c:=by
 intro c e
 have:=Array.all_eq_true_iff_forall_mem.1 h o (Array.mem_of_getElem? ho)
 simp [e]at this
theorem opsIn_of_ops {rd m:Nat} {Q:Exit→Act→World→Prop} (hd:noDefer ops=true) (hQ:∀a w,¬Q .outgrown a w):
  ∀(l:List Nat) (a:Act) (w:World),wpOps P ops Q l a w→wpOpsIn (Fence.wide.inRound rd) m P ops Q l a w:=by
 intro l
 induction l with
 | nil=>exact fun a w h=>h
 | cons i l ih=>
  intro a w h
  simp only [wpOps]at h
  simp only [wpOpsIn]
  cases ho:ops[i]? with
  | none=>simp only [ho]at h⊢;exact ih a w h
  | some o=>
   simp only [ho]at h⊢
   by_cases hw:Region.wanted o (yielded ops a.tmps)=true
   ·simp only [hw,if_true]at h⊢
    rcases h with h | ⟨_,a₀,w₀,h⟩
    rotate_left
    ·exact absurd h (hQ _ _)
    refine ⟨fun _ _=>trivial,?_⟩
    rw [show (Fence.wide.inRound rd).round=some rd from rfl,Oper.semAt_some rd _ _ (noDefer_spec hd ho)]
    unfold Oper.wp at h
    generalize (execOp a.eval o).run P w=r at h
    cases r with
    | ok x w'=>
     cases x with
     | value v=>exact ih _ _ h
     | skip=>exact ih _ _ h
     | defer d=>exact ih _ _ h
     | enter f args=>
      refine ⟨fun h=>by simp [Fence.wide,Fence.inRound]at h,?_⟩
      refine CallsIn.inRound rd (callsIn_wide.2 (Calls.mono h fun e w'' he=> ?_))
      cases e with
      | returned v=>exact ih _ _ he
      | panicked c=>exact he
      | outgrown=>obtain ⟨a₀,w₀,h⟩:=he;exact absurd h (hQ _ _)
     | row row args=>
      refine ⟨fun h=>by simp [Fence.wide,Fence.inRound]at h,?_⟩
      intro c cs _
      obtain ⟨v,w'',hq,hs⟩:=h c cs
      exact ⟨v,w'',ih _ _ hq,stepsIn_wide.2 hs⟩
     | _=>exact h.elim
    | halt x w'=>
     cases x with
     | panic v=>exact h
     | _=>exact h.elim
   ·simp only [hw,if_false,Bool.false_eq_true]at h⊢
    exact ⟨fun _ _=>trivial,ih _ _ h⟩
end
end Go.Proofs.Ytemmjmplhknemaa
