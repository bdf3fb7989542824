/- Merged by program (merge.py) out of: Ref03C, JoinSpec, Ref03D, Ref03E, RowsSpec, SortA, SortB, SortC, RotSpec, SortD, SymSpec, StabSpec, GapSpec, RefGap. -/
import Derived.Test.YtemmjmplhknemaaMp7
import Derived.Test.YtemmjmplhknemaaMp8
import Derived.Test.YtemmjmplhknemaaMp1
set_option linter.unusedSimpArgs false
set_option linter.unusedVariables false
set_option maxRecDepth 100000
set_option maxHeartbeats 16000000
namespace Go.Proofs.Ytemmjmplhknemaa
open Go.RowKit
end Go.Proofs.Ytemmjmplhknemaa
namespace Go.Proofs.Ytemmjmplhknemaa
abbrev InS (x:Int×Int) (p:Int):Prop:=x.1≤p∧p < x.1+x.2
structure Canon (zs:List (Int×Int)) (S:Int→Prop):Prop where
 pos:∀x∈zs,1≤x.2
 apart:zs.Pairwise (fun x y=>x.1+x.2 < y.1)
 mem:∀p,(∃x∈zs,InS x p)↔S p
theorem Canon.nil {S:Int→Prop} (h:∀p,¬S p):Canon [] S:=⟨by simp,List.Pairwise.nil,fun p=>by simp [h p]⟩
theorem Canon.congr {zs:List (Int×Int)} {S T:Int→Prop} (h:Canon zs S) (e:∀p,S p↔T p):Canon zs T:=⟨h.pos,h.apart,fun p=>(h.mem p).trans (e p)⟩
theorem Canon.tail {x:Int×Int} {zs:List (Int×Int)} {S:Int→Prop} (h:Canon (x::zs) S):Canon zs (fun p=>S p∧x.1+x.2≤p):=by
 have ha:=h.apart
 rw [List.pairwise_cons]at ha
 refine ⟨fun y hy=>h.pos y (by simp [hy]),ha.2,fun p=>⟨fun ⟨y,hy,hp⟩=>⟨(h.mem p).1 ⟨y,by simp [hy],hp⟩,?_⟩,fun ⟨hs,hp⟩=> ?_⟩⟩
 ·have:=ha.1 y hy
  have:=hp.1
  omega
 ·obtain ⟨y,hy,hyp⟩:=(h.mem p).2 hs
  rw [List.mem_cons]at hy
  rcases hy with rfl | hy
  ·have:=hyp.2;omega
  ·exact ⟨y,hy,hyp⟩
theorem Canon.unique:∀ {zs ys:List (Int×Int)} {S:Int→Prop},Canon zs S→Canon ys S→zs=ys:=by
 intro zs
 induction zs with
 | nil=>
  intro ys S h k
  cases ys with
  | nil=>rfl
  | cons y ys=>
   have:=(k.mem y.1).1 ⟨y,by simp,by have:=k.pos y (by simp);exact ⟨by omega,by omega⟩⟩
   have:=(h.mem y.1).2 this
   simp at this
 | cons x zs ih=>
  intro ys S h k
  cases ys with
  | nil=>
   have:=(h.mem x.1).1 ⟨x,by simp,by have:=h.pos x (by simp);exact ⟨by omega,by omega⟩⟩
   have:=(k.mem x.1).2 this
   simp at this
  | cons y ys=>
   have hx:=h.pos x (by simp)
   have hy:=k.pos y (by simp)
   have hxa:=h.apart
   have hya:=k.apart
   rw [List.pairwise_cons]at hxa hya
   have lo:∀ {a b:Int×Int} {l m:List (Int×Int)},Canon (a::l) S→Canon (b::m) S→b.1≤a.1:=by
    intro a b l m ha hb
    have hpa:=ha.pos a (by simp)
    have hba:=hb.apart
    rw [List.pairwise_cons]at hba
    have h1:=(ha.mem a.1).1 ⟨a,by simp,⟨by omega,by omega⟩⟩
    obtain ⟨c,hc,hcp⟩:=(hb.mem a.1).2 h1
    rw [List.mem_cons]at hc
    rcases hc with rfl | hc
    ·exact hcp.1
    ·have:=hba.1 c hc;have:=hcp.1;have:=hb.pos b (by simp);omega
   have e1:x.1=y.1:=by have:=lo h k;have:=lo k h;omega
   have hi:∀ {a b:Int×Int} {l m:List (Int×Int)},Canon (a::l) S→Canon (b::m) S→a.1=b.1→a.1+a.2≤b.1+b.2:=by
    intro a b l m ha hb e
    rcases Int.lt_or_le (b.1+b.2) (a.1+a.2)with hlt | hle
    ·have hpb:=hb.pos b (by simp)
     have hba:=hb.apart
     rw [List.pairwise_cons]at hba
     have h1:=(ha.mem (b.1+b.2)).1 ⟨a,by simp,⟨by omega,by omega⟩⟩
     obtain ⟨c,hc,hcp⟩:=(hb.mem (b.1+b.2)).2 h1
     rw [List.mem_cons]at hc
     rcases hc with rfl | hc
     ·have:=hcp.2;omega
     ·have:=hba.1 c hc;have:=hcp.1;omega
    ·exact hle
   have e2:x.2=y.2:=by have:=hi h k e1;have:=hi k h e1.symm;omega
   obtain rfl:x=y:=Prod.ext e1 e2
   rw [ih h.tail k.tail]
theorem hasB_iff {a s p:Int}:hasB a s p=true↔mayB a s=true∧a≤p∧p < a+s:=by simp [hasB]
theorem covered_iff {xs:List (Int×Int)} {p:Int}:coveredB xs p=true↔∃x∈xs,mayB x.1 x.2=true∧InS x p:=by
 unfold coveredB
 rw [List.any_eq_true]
 constructor
 ·rintro ⟨x,hx,h⟩;exact ⟨x,hx,hasB_iff.1 h⟩
 ·rintro ⟨x,hx,h⟩;exact ⟨x,hx,hasB_iff.2 h⟩
end Go.Proofs.Ytemmjmplhknemaa
namespace Go.Proofs.Ytemmjmplhknemaa
open Go.RowKit
def JoinOf (xs zs:List (Int×Int)):Prop:=Canon zs (fun p=>coveredB xs p=true)
end Go.Proofs.Ytemmjmplhknemaa
namespace Go.Proofs.Ytemmjmplhknemaa
def stepJ (st:List (Int×Int)×(Int×Int)) (x:Int×Int):List (Int×Int)×(Int×Int):=
 if mayB x.1 x.2=true then
  if 0 < st.2.2∧x.1≤st.2.1+st.2.2 then (st.1,(st.2.1,max (st.2.1+st.2.2) (x.1+x.2) - st.2.1))
  else (if 0 < st.2.2 then st.1++ [st.2]else st.1,x)
 else st
def foldJ (l:List (Int×Int)):List (Int×Int)×(Int×Int):=l.foldl stepJ ([],(0,0))
def flushJ (st:List (Int×Int)×(Int×Int)):List (Int×Int):=if 0 < st.2.2 then st.1++ [st.2]else st.1
def joinZ (zs:List (Int×Int)):List (Int×Int):=flushJ (foldJ zs)
def joinL (xs:List (Int×Int)):List (Int×Int):=joinZ (sortS xs)
theorem foldJ_snoc (l:List (Int×Int)) (x:Int×Int):foldJ (l++ [x])=stepJ (foldJ l) x:=by simp [foldJ]
theorem foldJ_take {zs:List (Int×Int)} {k:Nat} (hk:k < zs.length):foldJ (zs.take (k+1))=stepJ (foldJ (zs.take k)) (zs.getD k (0,0)):=by
 rw [List.take_succ_eq_append_getElem hk,foldJ_snoc]
 simp [List.getElem?_eq_getElem hk]
theorem stepJ_prefix (st:List (Int×Int)×(Int×Int)) (x:Int×Int):st.1 <+:(stepJ st x).1:=by
 unfold stepJ
 split
 ·split
  ·exact List.prefix_refl _
  ·simp only
   split
   ·exact List.prefix_append _ _
   ·exact List.prefix_refl _
 ·exact List.prefix_refl _
theorem foldl_prefix (l:List (Int×Int)):∀st,st.1 <+:(l.foldl stepJ st).1:=by
 induction l with
 | nil=>exact fun st=>List.prefix_refl _
 | cons x l ih=>exact fun st=>(stepJ_prefix st x).trans (ih _)
theorem flush_prefix (st:List (Int×Int)×(Int×Int)):st.1 <+:flushJ st:=by
 unfold flushJ
 split
 ·exact List.prefix_append _ _
 ·exact List.prefix_refl _
theorem fold_prefix (zs:List (Int×Int)) (k:Nat):(foldJ (zs.take k)).1 <+:joinZ zs:=by
 have h:foldJ zs=(zs.drop k).foldl stepJ (foldJ (zs.take k)):=by
  conv=>lhs;rw [←List.take_append_drop k zs]
  simp only [foldJ,List.foldl_append]
 unfold joinZ
 rw [h]
 exact (foldl_prefix _ _).trans (flush_prefix _)
structure InvJ (l:List (Int×Int)) (st:List (Int×Int)×(Int×Int)):Prop where
 may:0 < st.2.2→mayB st.2.1 st.2.2=true
 zero:0≤st.2.2
 none:¬0 < st.2.2→st.1= []
 first:0 < st.2.2→∃y∈l,st.2.1=y.1
 canon:Canon (flushJ st) (fun p=>coveredB l p=true)
theorem canon_append {zs:List (Int×Int)} {S T:Int→Prop} {x:Int×Int} (h:Canon zs S) (hx:1≤x.2) (ha:∀y∈zs,y.1+y.2 < x.1) (hT:∀p,T p↔S p∨InS x p):Canon (zs++ [x]) T:=by
 refine ⟨?_,?_,fun p=> ?_⟩
 ·intro y hy
  rw [List.mem_append,List.mem_singleton]at hy
  rcases hy with hy | rfl
  ·exact h.pos y hy
  ·exact hx
 ·rw [List.pairwise_append]
  refine ⟨h.apart,by simp,fun y hy z hz=> ?_⟩
  rw [List.mem_singleton]at hz
  subst hz
  exact ha y hy
 ·rw [hT p,←h.mem p]
  constructor
  ·rintro ⟨y,hy,hp⟩
   rw [List.mem_append,List.mem_singleton]at hy
   rcases hy with hy | rfl
   ·exact .inl ⟨y,hy,hp⟩
   ·exact .inr hp
  ·rintro (⟨y,hy,hp⟩ | hp)
   ·exact ⟨y,by simp [hy],hp⟩
   ·exact ⟨x,by simp,hp⟩
theorem covered_snoc (l:List (Int×Int)) (x:Int×Int) (p:Int):coveredB (l++ [x]) p=true↔coveredB l p=true∨(mayB x.1 x.2=true∧InS x p):=by
 rw [covered_iff,covered_iff]
 constructor
 ·rintro ⟨y,hy,hm,hp⟩
  rw [List.mem_append,List.mem_singleton]at hy
  rcases hy with hy | rfl
  ·exact .inl ⟨y,hy,hm,hp⟩
  ·exact .inr ⟨hm,hp⟩
 ·rintro (⟨y,hy,hm,hp⟩ | ⟨hm,hp⟩)
  ·exact ⟨y,by simp [hy],hm,hp⟩
  ·exact ⟨x,by simp,hm,hp⟩
theorem InvJ.start:InvJ [] ([],(0,0)):=⟨by simp,by simp,by simp,by simp,by
 have:flushJ ([],(0,0))= []:=by simp [flushJ]
 rw [this]
 exact Canon.nil (by simp [coveredB])⟩
theorem InvJ.step {l:List (Int×Int)} {st:List (Int×Int)×(Int×Int)} {x:Int×Int} (h:InvJ l st) (hx:∀y∈l,y.1≤x.1):InvJ (l++ [x]) (stepJ st x):=by
 obtain ⟨em,a,s⟩:=st
 by_cases hm:mayB x.1 x.2=true
 rotate_left
 ·have e:stepJ (em,a,s) x=(em,a,s):=by simp [stepJ,hm]
  rw [e]
  refine ⟨h.may,h.zero,h.none,fun h0=> ?_,h.canon.congr fun p=> ?_⟩
  ·obtain ⟨y,hy,e⟩:=h.first h0
   exact ⟨y,by simp [hy],e⟩
  ·rw [covered_snoc];simp [hm]
 have hxb:=may_bd hm
 by_cases h0:0 < s
 ·have hob:=may_bd (h.may h0)
  simp only at hob
  have hc:=h.canon
  have hf:flushJ (em,a,s)=em++ [(a,s)]:=by simp [flushJ,h0]
  rw [hf]at hc
  have hap:=hc.apart
  rw [List.pairwise_append]at hap
  obtain ⟨hap1, -,hap3⟩:=hap
  obtain ⟨y0,hy0,e0⟩:=h.first h0
  simp only at e0
  have hax:a≤x.1:=by have:=hx y0 hy0;omega
  have hem:Canon em (fun p=>coveredB l p=true∧p < a):=by
   refine ⟨fun y hy=>hc.pos y (by simp [hy]),hap1,fun p=> ?_⟩
   have:=hc.mem p
   constructor
   ·rintro ⟨y,hy,hp⟩
    refine ⟨this.1 ⟨y,by simp [hy],hp⟩,?_⟩
    have:=hap3 y hy (a,s) (by simp)
    have:=hp.2
    simp only at*
    omega
   ·rintro ⟨hp,hlt⟩
    obtain ⟨y,hy,hyp⟩:=this.2 hp
    rw [List.mem_append,List.mem_singleton]at hy
    rcases hy with hy | rfl
    ·exact ⟨y,hy,hyp⟩
    ·have:=hyp.1;simp only at this;omega
  have hcov:∀p,coveredB l p=true↔(coveredB l p=true∧p < a)∨InS (a,s) p:=by
   intro p
   constructor
   ·intro hp
    obtain ⟨y,hy,hyp⟩:=(hc.mem p).2 hp
    rw [List.mem_append,List.mem_singleton]at hy
    rcases hy with hy | rfl
    ·exact .inl ((hem.mem p).1 ⟨y,hy,hyp⟩)
    ·exact .inr hyp
   ·rintro (hp | hp)
    ·exact hp.1
    ·exact (hc.mem p).1 ⟨(a,s),by simp,hp⟩
  by_cases hj:x.1≤a+s
  ·have e:stepJ (em,a,s) x=(em,(a,max (a+s) (x.1+x.2) - a)):=by simp [stepJ,hm,h0,hj]
   rw [e]
   have hpos:0 < max (a+s) (x.1+x.2) - a:=by omega
   refine ⟨fun _=> ?_,by simp only;omega,fun hn=>absurd hpos hn,fun _=>⟨y0,by simp [hy0],e0⟩,?_⟩
   ·simp only [mayB,decide_eq_true_eq];omega
   ·have hf2:flushJ (em,(a,max (a+s) (x.1+x.2) - a))=em++ [(a,max (a+s) (x.1+x.2) - a)]:=by simp only [flushJ];rw [if_pos hpos]
    rw [hf2]
    refine canon_append hem (by simp only;omega) (fun y hy=>hap3 y hy (a,s) (by simp)) fun p=> ?_
    rw [covered_snoc]
    have hcp:=hcov p
    constructor
    ·intro h3
     rcases (show ((coveredB l p=true∧p < a)∨InS (a,s) p)∨(mayB x.1 x.2=true∧InS x p)from h3.imp hcp.1 id)with (hp | ⟨p1,p2⟩) | ⟨-,p1,p2⟩
     ·exact .inl hp
     ·exact .inr ⟨p1,by simp only at*;omega⟩
     ·exact .inr ⟨by simp only at*;omega,by simp only at*;omega⟩
    ·rintro (hp | ⟨p1,p2⟩)
     ·exact .inl hp.1
     ·simp only at p1 p2
      by_cases hq:p < a+s
      ·exact .inl (hcp.2 (.inr ⟨p1,hq⟩))
      ·exact .inr ⟨hm,by omega,by omega⟩
  ·have e : stepJ (em, a, s) x = (em ++ [(a, s)], x) := by
    simp only [stepJ,hm,if_true]
    rw [if_neg (fun h=>hj h.2),if_pos h0]
   rw [e]
   refine ⟨fun _=>hm,by simp only;omega,fun hn=>absurd (show 0 < x.2 by omega) hn,fun _=>⟨x,by simp,rfl⟩,?_⟩
   have hf2:flushJ (em++ [(a,s)],x)=em++ [(a,s)]++ [x]:=by simp only [flushJ];rw [if_pos (by omega)]
   rw [hf2]
   refine canon_append hc (by omega) (fun y hy=> ?_) fun p=> ?_
   ·rw [List.mem_append,List.mem_singleton]at hy
    rcases hy with hy | rfl
    ·have:=hap3 y hy (a,s) (by simp)
     simp only at this
     omega
    ·simp only;omega
   ·rw [covered_snoc];simp [hm]
 ·have h1:s=0:=by have:=h.zero;simp only at this;omega
  have h2:em= []:=h.none h0
  subst h1 h2
  have e:stepJ ([],(a,0)) x=([],x):=by simp [stepJ,hm]
  rw [e]
  refine ⟨fun _=>hm,by simp only;omega,fun hn=>absurd (show 0 < x.2 by omega) hn,fun _=>⟨x,by simp,rfl⟩,?_⟩
  have hf:flushJ ([],(a,0))= []:=by simp [flushJ]
  have hf2:flushJ ([],x)= []++ [x]:=by simp only [flushJ];rw [if_pos (by omega)]
  have hc:=h.canon
  rw [hf]at hc
  rw [hf2]
  refine canon_append hc (by omega) (by simp) fun p=> ?_
  rw [covered_snoc];simp [hm]
theorem invJ (zs:List (Int×Int)) (hs:zs.Pairwise (fun x y=>leS x y=true)):∀k,k≤zs.length→InvJ (zs.take k) (foldJ (zs.take k)):=by
 intro k
 induction k with
 | zero=>intro _;simpa [foldJ]using InvJ.start
 | succ k ih=>
  intro hk
  have h1:=ih (by omega)
  rw [List.take_succ_eq_append_getElem (by omega),foldJ_snoc]
  refine h1.step fun y hy=> ?_
  obtain ⟨i,hi,rfl⟩:=List.getElem_of_mem hy
  have hi':i < k:=by simp at hi;omega
  rw [List.getElem_take]
  have:=List.pairwise_iff_getElem.1 hs i k (by omega) (by omega) hi'
  rw [leS_iff]at this
  omega
theorem join_canon (xs:List (Int×Int)):JoinOf xs (joinL xs):=by
 have h:=(invJ (sortS xs) (sortS_sorted xs) _ (Nat.le_refl _)).canon
 rw [List.take_length]at h
 refine Canon.congr h fun p=> ?_
 rw [covered_iff,covered_iff]
 exact ⟨fun ⟨x,hx,h⟩=>⟨x,sortS_mem.1 hx,h⟩,fun ⟨x,hx,h⟩=>⟨x,sortS_mem.2 hx,h⟩⟩
theorem join_length (zs:List (Int×Int)):(joinZ zs).length≤zs.length:=by
 have h:∀(l:List (Int×Int)) (st:List (Int×Int)×(Int×Int)),(flushJ (l.foldl stepJ st)).length≤(flushJ st).length+l.length:=by
  intro l
  induction l with
  | nil=>intro st;simp
  | cons x l ih=>
   intro st
   refine Nat.le_trans (ih _) ?_
   have:(flushJ (stepJ st x)).length≤(flushJ st).length+1:=by
    unfold stepJ
    split
    ·split
     ·rename_i h
      unfold flushJ
      simp only
      rw [if_pos h.1]
      split <;>simp <;>omega
     ·unfold flushJ
      simp only
      split <;>split <;>simp
    ·omega
   simp only [List.length_cons]
   omega
 have:=h zs ([],(0,0))
 have h0:flushJ ([],(0,0))= []:=by simp [flushJ]
 rw [h0,List.length_nil,Nat.zero_add]at this
 exact this
end Go.Proofs.Ytemmjmplhknemaa
namespace Go.Proofs.Ytemmjmplhknemaa
open Go.RowKit
def cmpZ (a b:Int):Int:=if a < b then -1 else if b < a then 1 else 0
def orZ (p q:Int):Int:=if p=0 then q else p
def byZ (x y:Int×Int):Int:=orZ (cmpZ x.1 y.1) (cmpZ x.2 y.2)
theorem byZ_neg {x y:Int×Int}:byZ x y < 0↔leS y x=false:=by
 rw [Bool.eq_false_iff,ne_eq,leS_iff]
 unfold byZ orZ cmpZ
 (repeat' split) <;>omega
theorem isnan_any (a:Int) (w:World):Calls Try.prog 95 #[.int .i64 a] w fun e w'=>e= .returned (.bool false)∧Ext w w':=by
 go_enter Try.func95,Try.ntmps95
 go_wp2
 go_ret
 exact ⟨by simp,zF⟩
theorem compare_any (a b:Int) (W:World):Calls Try.prog 92 #[.int .i64 a,.int .i64 b] W fun e w'=>e= .returned (.int .i64 (cmpZ a b))∧Ext W w':=by
 have hs0:Ext W W:=Ext.refl W
 by_cases h1:a < b
 ·go_enter Try.func92,Try.ntmps92
  go_wp2_with (go_at_call 95;refine (isnan_any _ _).mono ?_;rintro e w1 ⟨rfl,hx0⟩;have hx:=Ext.trans (a:=W) (by with_reducible assumption) hx0;clear hx0)
  go_ret
  exact ⟨ret_int (by unfold cmpZ;rw [if_pos h1]),by assumption⟩
 ·by_cases h2:b < a
  ·go_enter Try.func92,Try.ntmps92
   go_wp2_with (go_at_call 95;refine (isnan_any _ _).mono ?_;rintro e w1 ⟨rfl,hx0⟩;have hx:=Ext.trans (a:=W) (by with_reducible assumption) hx0;clear hx0)
   go_ret
   exact ⟨ret_int (by unfold cmpZ;rw [if_neg (by omega),if_pos h2]),by assumption⟩
  ·go_enter Try.func92,Try.ntmps92
   go_wp2_with (go_at_call 95;refine (isnan_any _ _).mono ?_;rintro e w1 ⟨rfl,hx0⟩;have hx:=Ext.trans (a:=W) (by with_reducible assumption) hx0;clear hx0)
   go_ret
   exact ⟨ret_int (by unfold cmpZ;rw [if_neg (by omega),if_neg (by omega)]),by assumption⟩
theorem or_any (p q:Int) (b off c:Nat) (W:World) (h0:W.cell? ⟨b,off,none⟩=some (.int .i64 p)) (h1:W.cell? ⟨b,off+1,none⟩=some (.int .i64 q)):
  Calls Try.prog 91 #[.slice (some ⟨b,off,none⟩) 2 c] W fun e w'=>e= .returned (.int .i64 (orZ p q))∧Ext W w':=by
 by_cases hp:p=0
 ·subst hp
  by_cases hq:q=0
  ·subst hq
   go_enter Try.func91,Try.ntmps91
   go_wp2_with fail
   refine wp_loop_rounds 3 ?_
   rw [rounds_succ]
   go_wp2_with fail
   rw [rounds_succ]
   go_wp2_with fail
   rw [rounds_succ]
   go_wp2_with fail
   go_ret
   exact ⟨ret_int (by simp [orZ]),Ext.refl _⟩
  ·have hq1:(q !=0)=true:=by simpa using hq
   have HQ:=zH hq
   clear hq
   go_enter Try.func91,Try.ntmps91
   go_wp2_with fail
   refine wp_loop_rounds 2 ?_
   rw [rounds_succ]
   go_wp2_with fail
   rw [rounds_succ]
   go_wp2_with fail
   go_ret
   exact ⟨ret_int (by simp [orZ]),Ext.refl _⟩
 ·have hq1:(p !=0)=true:=by simpa using hp
  have HQ:=zH hp
  clear hp
  go_enter Try.func91,Try.ntmps91
  go_wp2_with fail
  refine wp_loop_rounds 1 ?_
  rw [rounds_succ]
  go_wp2_with fail
  go_ret
  exact ⟨ret_int (by unfold orZ;rw [if_neg HQ.out]),Ext.refl _⟩
theorem by_any (x y:Int×Int) (w:World):
  Calls Try.prog 89 #[.agg #[.int .i64 (x.1),.int .i64 (x.2)],.agg #[.int .i64 (y.1),.int .i64 (y.2)]] w fun e w'=>e= .returned (.int .i64 (byZ x y))∧Ext w w':=by
 obtain ⟨a,s⟩:=x
 obtain ⟨c,d⟩:=y
 show Calls Try.prog 89 #[.agg #[.int .i64 (a),.int .i64 (s)],.agg #[.int .i64 (c),.int .i64 (d)]] w fun e w'=>e= .returned (.int .i64 (orZ (cmpZ a c) (cmpZ s d)))∧Ext w w'
 go_enter Try.func89,Try.ntmps89
 go_wp2_with fail
 have hW:Ext w ((w.alloc (.cells #[.int .i64 a,.int .i64 s] 62)).alloc (.cells #[.int .i64 c,.int .i64 d] 62)):=((Ext.refl w).alloc _).alloc _
 have k0:=boxed w #[.int .i64 a,.int .i64 s] 62 0 _ rfl
 have k1:=boxed w #[.int .i64 a,.int .i64 s] 62 1 _ rfl
 have k2:=boxed (w.alloc (.cells #[.int .i64 a,.int .i64 s] 62)) #[.int .i64 c,.int .i64 d] 62 0 _ rfl
 have k3:=boxed (w.alloc (.cells #[.int .i64 a,.int .i64 s] 62)) #[.int .i64 c,.int .i64 d] 62 1 _ rfl
 replace k0:∀w',Ext ((w.alloc (.cells #[.int .i64 a,.int .i64 s] 62)).alloc (.cells #[.int .i64 c,.int .i64 d] 62)) w'→_:=fun w' h=>k0 w' (((Ext.refl _).alloc _).trans h)
 replace k1:∀w',Ext ((w.alloc (.cells #[.int .i64 a,.int .i64 s] 62)).alloc (.cells #[.int .i64 c,.int .i64 d] 62)) w'→_:=fun w' h=>k1 w' (((Ext.refl _).alloc _).trans h)
 simp only [World.size_alloc]at k2 k3
 generalize (w.alloc (.cells #[.int .i64 a,.int .i64 s] 62)).alloc (.cells #[.int .i64 c,.int .i64 d] 62)=W at*
 have hs0:Ext W W:=Ext.refl W
 go_region_held3 (fun w1=>Ext W w1) (first | (with_reducible assumption) | (exact Ext.drew (by with_reducible assumption)) | (with_reducible exact Ext.drew (Ext.alloc (by with_reducible assumption) _)) | (with_reducible exact Ext.alloc (by with_reducible assumption) _) | (exact Ext.trans (by with_reducible assumption) (by with_reducible assumption))) (first
  | (go_at_call 92;refine (compare_any _ _ _).mono ?_;rintro e w1 ⟨rfl,hx⟩)
  | (go_at_call 91;refine Calls.mono (or_any (cmpZ a c) (cmpZ s d) _ _ _ _ (by simp) (by simp)) ?_;rintro e w1 ⟨rfl,hx⟩))
 go_wp2
 go_ret
 exact ⟨rfl,hW.trans (by assumption)⟩
theorem flat_set:∀(xs:List (Int×Int)) (i:Nat) (a b:Int),((xs.flatMap spanC).set (i*2) (.int .i64 a)).set (i*2+1) (.int .i64 b)=(xs.set i (a,b)).flatMap spanC:=by
 intro xs
 induction xs with
 | nil=>intro i a b;simp
 | cons x t ih=>
  intro i a b
  cases i with
  | zero=>simp [spanC]
  | succ i=>
   have h:=ih i a b
   simp only [List.flatMap_cons,spanC,List.cons_append,List.nil_append,List.set_cons_succ,show (i+1)*2=i*2+1+1 by omega]
   rw [←h]
theorem OwnS.store {w:World} {B g N cap:Nat} {xs:List (Int×Int)} (h:OwnS w B (.slice (some ⟨g,0,none⟩) N cap) xs) (hN:xs.length=N) (i:Nat) (a b:Int):
  OwnS ((w.setCell ⟨g,i*2,none⟩ (.int .i64 a)).setCell ⟨g,i*2+1,none⟩ (.int .i64 b)) B (.slice (some ⟨g,0,none⟩) N cap) (xs.set i (a,b)):=by
 unfold OwnS Own at*
 rw [hN]at h
 have h1:=(World.ownsRow.stored (World.ownsRow.stored h (i*2) (.int .i64 a)).1 (i*2+1) (.int .i64 b)).1
 rw [flat_set]at h1
 rw [List.length_set,hN]
 exact h1
theorem OwnS.at {w:World} {B g N cap:Nat} {xs:List (Int×Int)} (h:OwnS w B (.slice (some ⟨g,0,none⟩) N cap) xs) (hN:xs.length=N) {i:Nat} (hi:i < N):
  w.cell? ⟨g,i*2,none⟩=some (.int .i64 (gt xs i).1)∧w.cell? ⟨g,i*2+1,none⟩=some (.int .i64 (gt xs i).2)∧w.frozen? ⟨g,i*2,none⟩=false∧w.frozen? ⟨g,i*2+1,none⟩=false:=by
 have h':=h
 unfold OwnS Own at h'
 rw [hN]at h'
 have hx:xs[i]?=some (gt xs i):=by rw [gt_eq (by omega)];simp [hN,hi]
 refine ⟨?_,?_,World.ownsRow.frozenAt h' _,World.ownsRow.frozenAt h' _⟩
 ·rw [World.ownsRow.cellAt h' _ (by omega)]
  have:=flat_get spanCells (by decide) (l:=xs) (i:=i) (j:=0) hx rfl
  simpa using this
 ·rw [World.ownsRow.cellAt h' _ (by omega)]
  exact flat_get spanCells (by decide) (l:=xs) (i:=i) (j:=1) hx rfl
def InPlace (w:World) (B g N cap:Nat) (S:List (Int×Int)→Prop) (e:Ending) (w':World):Prop:=
 e= .returned (.tuple #[])∧Below B w w'∧∃ys,ys.length=N∧S ys∧OwnS w' B (.slice (some ⟨g,0,none⟩) N cap) ys
def swapTo (xs:List (Int×Int)) (a b:Nat):Nat→List (Int×Int)
 | 0=>xs
 | n+1=>swapL (swapTo xs a b n) (a+n) (b+n)
theorem swapTo_length (xs:List (Int×Int)) (a b n:Nat):(swapTo xs a b n).length=xs.length:=by
 induction n with
 | zero=>rfl
 | succ n ih=>rw [swapTo,swapL_length,ih]
theorem swapRange_any (B g N cap a b n:Nat) (xs:List (Int×Int)) (w:World) (hBg:B≤g) (hN:xs.length=N) (hN2:N≤4000000000000) (hab:a+n≤b) (hb:b+n≤N)
  (ho:OwnS w B (.slice (some ⟨g,0,none⟩) N cap) xs):
  Calls Try.prog 97 #[.slice (some ⟨g,0,none⟩) N cap,.int .i64 a,.int .i64 b,.int .i64 n,.func (.func 89) #[] #[]] w
   (InPlace w B g N cap (fun ys=>ys=swapTo xs a b n)):=by
 have HO:=zH ho
 have HN:=zH hN
 clear ho hN
 go_enter Try.func97,Try.ntmps97
 go_wp2_with fail
 go_loopw [10] (fun i wr=>∃k:Nat,k≤n∧i= .int .i64 k∧Below B w wr∧OwnS wr B (.slice (some ⟨g,0,none⟩) N cap) (swapTo xs a b k)) (fun i _=>n - (intOf i).toNat)
 case atStart=>exact ⟨0,by omega,rfl,Below.refl _ _,HO.out⟩
 case round=>
  obtain ⟨k,hk,rfl,hbel,hown⟩:=hrel
  have HW:=zH hown
  have HBL:=zH hbel
  clear hown hbel HO
  by_cases hlt:k < n
  rotate_left
  ·obtain rfl:k=n:=by omega
   go_wp2_with fail
   go_end0
   exact ⟨rfl,HBL.out,_,by rw [swapTo_length];exact HN.out,rfl,HW.out⟩
  have hsl:(swapTo xs a b k).length=N:=by rw [swapTo_length];exact HN.out
  obtain ⟨p,hp⟩:∃p,p=a+k:=⟨_,rfl⟩
  obtain ⟨q,hq⟩:∃q,q=b+k:=⟨_,rfl⟩
  obtain ⟨p1,p2,p3,p4⟩:=HW.out.at hsl (show p < N by omega)
  obtain ⟨q1,q2,q3,q4⟩:=HW.out.at hsl (show q < N by omega)
  have HSL:=zH hsl
  have hpq:p < q:=by omega
  have i1:(a:Int)+(k:Int)=(p:Int):=by omega
  have i2:(b:Int)+(k:Int)=(q:Int):=by omega
  have i3:(p:Int) < (N:Int):=by omega
  have i4:(q:Int) < (N:Int):=by omega
  have i5:(0:Int)≤(p:Int):=by omega
  have i6:(0:Int)≤(q:Int):=by omega
  have i7:(N:Int)≤4000000000000:=by omega
  have i8:(k:Int) < (n:Int):=by omega
  have j1:IntKind.i64.wrap (p:Int)=(p:Int):=IntWalk.i64_in _ (by omega)
  have j2:IntKind.i64.wrap (q:Int)=(q:Int):=IntWalk.i64_in _ (by omega)
  have j3:¬p=q:=by omega
  have j4:¬q=p:=by omega
  have j5:¬p*2=q*2+1:=by omega
  have j6:¬q*2+1=p*2:=by omega
  have j7:¬p*2+1=q*2:=by omega
  have j8:¬q*2=p*2+1:=by omega
  have HPQ:=zH (And.intro hp hq)
  clear hsl hp hq
  generalize hgx:gt (swapTo xs a b k) p=x at*
  generalize hgy:gt (swapTo xs a b k) q=y at*
  have HX:=zH (And.intro hgx hgy)
  clear hgx hgy
  obtain ⟨x1,x2⟩:=x
  obtain ⟨y1,y2⟩:=y
  simp only at p1 p2 q1 q2
  go_wp2_with fail
  go_region
  go_wp2_with fail
  go_roundw
  case rel=>
   refine ⟨k+1,by omega,by go_num,((((HBL.out.drew).setCell hBg _).setCell hBg _).setCell hBg _).setCell hBg _,?_⟩
   have h1:=OwnS.store (w:=wr.drew) HW.out HSL.out p y1 y2
   have h2:=OwnS.store h1 (by simp [HSL.out]) q x1 x2
   rw [swapTo,←HPQ.out.1,←HPQ.out.2,swapL,HX.out.1,HX.out.2]
   exact h2
  case measure=>simp [intOf];omega
theorem OwnS.ext {w w':World} {B:Nat} {v:Value} {xs:List (Int×Int)} (h:OwnS w B v xs) (he:Ext w w'):OwnS w' B v xs:=Own.ext h he
def InsRel (w:World) (B g N cap a b:Nat) (xs:List (Int×Int)) (i:Value) (wr:World):Prop:=
 ∃(k:Nat) (ys:List (Int×Int)),i= .int .i64 k∧a+1≤k∧(k≤b∨k=a+1)∧Below B w wr∧ys.length=N∧Seg a b xs ys∧Ordered a k ys∧OwnS wr B (.slice (some ⟨g,0,none⟩) N cap) ys
def InsRel2 (w:World) (B g N cap a b k:Nat) (xs:List (Int×Int)) (j:Value) (wr:World):Prop:=
 ∃(m:Nat) (ys:List (Int×Int)),j= .int .i64 m∧a≤m∧m≤k∧Below B w wr∧ys.length=N∧Seg a b xs ys∧Almost a m k ys∧OwnS wr B (.slice (some ⟨g,0,none⟩) N cap) ys
theorem insSort_any (B g N cap a b:Nat) (xs:List (Int×Int)) (w:World) (hB:B≤w.heap.size) (hBg:B≤g) (hN:xs.length=N) (hN2:N≤4000000000000) (hab:a≤b) (hb:b≤N)
  (ho:OwnS w B (.slice (some ⟨g,0,none⟩) N cap) xs):
  Calls Try.prog 93 #[.slice (some ⟨g,0,none⟩) N cap,.int .i64 a,.int .i64 b,.func (.func 89) #[] #[]] w
   (InPlace w B g N cap (fun ys=>Seg a b xs ys∧Ordered a b ys)):=by
 have HO:=zH ho
 have HN:=zH hN
 clear ho hN
 go_enter Try.func93,Try.ntmps93
 go_wp2_with fail
 go_loopw [8] (fun i wr=>InsRel w B g N cap a b xs i wr) (fun i _=>b+1 - (intOf i).toNat)
 case atStart=>exact ⟨a+1,xs,by go_num,by omega,by omega,Below.refl _ _,HN.out,Seg.refl _ _ _,fun i j h1 h2 h3=>by omega,HO.out⟩
 case round=>
  obtain ⟨k,ys,rfl,hak,hkb,hbel,hyl,hseg,hord,hown⟩:=hrel
  have HW:=zH hown
  have HBL:=zH hbel
  have HY:=zH hyl
  have HSG:=zH hseg
  have HOR:=zH hord
  clear hown hbel hyl hseg hord HO HN
  by_cases hlt:k < b
  rotate_left
  ·have hge:(b:Int)≤(k:Int):=by omega
   go_wp2_with fail
   go_end0
   exact ⟨rfl,HBL.out,ys,HY.out,⟨HSG.out,HOR.out.sub (Nat.le_refl _) (by omega)⟩,HW.out⟩
  have i0:(k:Int) < (b:Int):=by omega
  have i9:(N:Int)≤4000000000000:=by omega
  have i8:(b:Int)≤(N:Int):=by omega
  go_wp2_with fail
  go_loopw [9] (fun j wr=>InsRel2 w B g N cap a b k xs j wr) (fun j _=>(intOf j).toNat)
  case atStart=>exact ⟨k,ys,rfl,by omega,by omega,HBL.out,HY.out,HSG.out,Almost.start HOR.out,HW.out⟩
  case round=>
   clear HW HBL HY HSG HOR
   obtain ⟨m,zs,rfl,ham,hmk,hbel,hzl,hseg,hal,hown⟩:=hrel
   have HW:=zH hown
   have HBL:=zH hbel
   have HY:=zH hzl
   have HSG:=zH hseg
   have HAL:=zH hal
   clear hown hbel hzl hseg hal
   obtain ⟨W,rfl⟩:∃W:World,W=wr:=⟨_,rfl⟩
   have hs0:Ext W W:=Ext.refl W
   have i1:(0:Int)≤(m:Int):=by omega
   have i2:(m:Int) < (N:Int):=by omega
   by_cases hma:m=a
   ·have HMA:=zH hma
    have hd:decide (a < m)=false:=by simp;omega
    clear hma
    go_wp2_with fail
    go_quiet (fail)
    go_wp2_with fail
    go_roundw
    case rel=>exact ⟨k+1,zs,by go_num,by omega,by omega,belowN HBL.out _,HY.out,HSG.out,by have h:=HAL.out;rw [HMA.out]at h;exact h.atStart,HW.out⟩
    case measure=>simp [intOf];omega
   obtain ⟨n,rfl⟩:∃n,m=n+1:=⟨m - 1,by omega⟩
   have hcast:((n+1:Nat):Int)=(n:Int)+1:=by omega
   rw [hcast]
   rw [hcast]at i1 i2
   clear hcast
   obtain ⟨p1,p2,p3,p4⟩:=HW.out.at HY.out (show n+1 < N by omega)
   obtain ⟨q1,q2,q3,q4⟩:=HW.out.at HY.out (show n < N by omega)
   have P1:=zH p1
   have P2:=zH p2
   have Q1:=zH q1
   have Q2:=zH q2
   generalize hgx:gt zs (n+1)=x at*
   generalize hgy:gt zs n=y at*
   have HX:=zH (And.intro hgx hgy)
   obtain ⟨x1,x2⟩:=x
   obtain ⟨y1,y2⟩:=y
   clear hgx hgy p1 p2 q1 q2
   have c1:∀w',Ext W w'→w'.cell? ⟨g,(n+1)*2,none⟩=some (.int .i64 x1):=fun w' h=>h.cell P1.out
   have c2:∀w',Ext W w'→w'.cell? ⟨g,(n+1)*2+1,none⟩=some (.int .i64 x2):=fun w' h=>h.cell P2.out
   have c3:∀w',Ext W w'→w'.cell? ⟨g,n*2,none⟩=some (.int .i64 y1):=fun w' h=>h.cell Q1.out
   have c4:∀w',Ext W w'→w'.cell? ⟨g,n*2+1,none⟩=some (.int .i64 y2):=fun w' h=>h.cell Q2.out
   have i3:(a:Int) < (n:Int)+1:=by omega
   have i4:(0:Int)≤(n:Int):=by omega
   have i5:(n:Int) < (N:Int):=by omega
   have j1:IntKind.i64.wrap ((n:Int)+1 - 1)=(n:Int):=by rw [show (n:Int)+1 - 1=n by omega];exact IntWalk.i64_in _ (by omega)
   have j2:IntKind.i64.wrap (n:Int)=(n:Int):=IntWalk.i64_in _ (by omega)
   cases hle:leS (y1,y2) (x1,x2)
   ·have hz:byZ (x1,x2) (y1,y2) < 0:=byZ_neg.2 hle
    go_wp2_with fail
    go_region_held3 (fun w1=>Ext W w1) (first | (with_reducible assumption) | (exact Ext.drew (by with_reducible assumption)) | (with_reducible exact Ext.drew (Ext.alloc (by with_reducible assumption) _)) | (with_reducible exact Ext.alloc (by with_reducible assumption) _) | (exact Ext.trans (by with_reducible assumption) (by with_reducible assumption))) (first | (go_at_call 89;refine (by_any (x1,x2) (y1,y2) _).mono ?_;rintro e w1 ⟨rfl,hx⟩))
    go_wp2_with fail
    have hbz:Below B w1 w1:=Below.refl _ _
    have HW1:=zH (HW.out.ext (by with_reducible assumption:Ext W w1))
    have HBL1:=zH (HBL.out.trans (Below.mono (by with_reducible assumption:Ext W w1) (by have:=HBL.out.size;omega)))
    clear hbz c1 c2 c3 c4 hs0
    obtain ⟨p1,p2,p3,p4⟩:=HW1.out.at HY.out (show n+1 < N by omega)
    obtain ⟨q1,q2,q3,q4⟩:=HW1.out.at HY.out (show n < N by omega)
    rw [HX.out.1]at p1 p2
    rw [HX.out.2]at q1 q2
    simp only at p1 p2 q1 q2
    have k1:¬(n+1)*2=n*2:=by omega
    have k2:¬n*2=(n+1)*2:=by omega
    have k3:¬(n+1)*2=n*2+1:=by omega
    have k4:¬n*2+1=(n+1)*2:=by omega
    have k5:¬(n+1)*2+1=n*2:=by omega
    have k6:¬n*2=(n+1)*2+1:=by omega
    have HAL2:=zH (HAL.out.step (by have:=HY.out;omega) (by omega) (by omega) (by rw [HX.out.1,HX.out.2,leS_iff];have:=hle;rw [Bool.eq_false_iff,ne_eq,leS_iff]at this;simp only at this⊢;omega))
    clear hz hle HW HBL P1 P2 Q1 Q2
    go_region
    go_wp2_with fail
    go_roundw
    case rel=>
     refine ⟨n,swapL zs (n+1) n,by go_num,by omega,by omega,((((HBL1.out.drew).setCell hBg _).setCell hBg _).setCell hBg _).setCell hBg _,by rw [swapL_length];exact HY.out,HSG.out.trans (Seg.swap (by have:=HY.out;omega) ⟨by omega,by omega⟩ ⟨by omega,by omega⟩),HAL2.out,?_⟩
     have h1:=OwnS.store (w:=w1.drew) HW1.out HY.out (n+1) y1 y2
     have h2:=OwnS.store h1 (by simp [HY.out]) n x1 x2
     rw [swapL,HX.out.1,HX.out.2]
     exact h2
    case measure=>simp [intOf]
   ·have hz:¬byZ (x1,x2) (y1,y2) < 0:=fun h=>by rw [byZ_neg.1 h]at hle;cases hle
    have hz1:0≤byZ (x1,x2) (y1,y2):=by omega
    go_wp2_with fail
    go_region_held3 (fun w1=>Ext W w1) (first | (with_reducible assumption) | (exact Ext.drew (by with_reducible assumption)) | (with_reducible exact Ext.drew (Ext.alloc (by with_reducible assumption) _)) | (with_reducible exact Ext.alloc (by with_reducible assumption) _) | (exact Ext.trans (by with_reducible assumption) (by with_reducible assumption))) (first | (go_at_call 89;refine (by_any (x1,x2) (y1,y2) _).mono ?_;rintro e w1 ⟨rfl,hx⟩))
    go_wp2_with fail
    go_roundw
    case rel=>exact ⟨k+1,zs,by go_num,by omega,by omega,HBL.out.trans (Below.mono (by assumption) (by have:=HBL.out.size;omega)),HY.out,HSG.out,HAL.out.stop (by omega) (by rw [HX.out.1,HX.out.2];exact hle),HW.out.ext (by assumption)⟩
    case measure=>simp [intOf];omega
end Go.Proofs.Ytemmjmplhknemaa
namespace Go.Proofs.Ytemmjmplhknemaa
theorem gt_swapTo {xs:List (Int×Int)} {a b n:Nat} (hab:a+n≤b) (hb:b+n≤xs.length):∀p,gt (swapTo xs a b n) p=if a≤p∧p < a+n then gt xs (p - a+b)else if b≤p∧p < b+n then gt xs (p - b+a)else gt xs p:=by
 induction n with
 | zero=>intro p;rw [swapTo,if_neg (by omega),if_neg (by omega)]
 | succ n ih=>
  intro p
  have ih:=ih (by omega) (by omega)
  rw [swapTo,gt_swap (by rw [swapTo_length];omega) (by rw [swapTo_length];omega),ih,ih,ih]
  (repeat' split) <;>first | (exfalso;omega) | rfl | exact congrArg _ (by omega)
theorem swapTo_seg {xs:List (Int×Int)} {a b n l r:Nat} (hr:r≤xs.length) (hab:a+n≤b) (hl:l≤a) (hb:b+n≤r):Seg l r xs (swapTo xs a b n):=by
 induction n with
 | zero=>exact Seg.refl _ _ _
 | succ n ih=>exact (ih (by omega) (by omega)).trans (Seg.swap (by rw [swapTo_length];exact hr) ⟨by omega,by omega⟩ ⟨by omega,by omega⟩)
def Rot (a m b:Nat) (xs ys:List (Int×Int)):Prop:=∀p,gt ys p=if p < a∨b≤p then gt xs p else if p < a+(b - m)then gt xs (p+(m - a))else gt xs (p - (b - m))
theorem Rot.last {m i:Nat} {xs:List (Int×Int)} (hi:i≤m) (hm:m+i≤xs.length):Rot (m - i) m (m+i) xs (swapTo xs (m - i) m i):=by
 intro p
 rw [gt_swapTo (by omega) (by omega)]
 (repeat' split) <;>first | (exfalso;omega) | rfl | exact congrArg _ (by omega)
theorem Rot.left {m i j:Nat} {xs ys:List (Int×Int)} (hi:i≤m) (hij:j < i) (hm:m+j≤xs.length) (h:Rot (m - (i - j)) m (m+j) (swapTo xs (m - i) m j) ys):Rot (m - i) m (m+j) xs ys:=by
 intro p
 rw [h p]
 rw [gt_swapTo (by omega) (by omega),gt_swapTo (by omega) (by omega),gt_swapTo (by omega) (by omega)]
 (repeat' split) <;>first | (exfalso;omega) | rfl | exact congrArg _ (by omega)
theorem Rot.right {m i j:Nat} {xs ys:List (Int×Int)} (hi:i≤m) (hij:i < j) (hm:m+j≤xs.length) (h:Rot (m - i) m (m+(j - i)) (swapTo xs (m - i) (m+j - i) i) ys):Rot (m - i) m (m+j) xs ys:=by
 intro p
 rw [h p]
 rw [gt_swapTo (by omega) (by omega),gt_swapTo (by omega) (by omega),gt_swapTo (by omega) (by omega)]
 (repeat' split) <;>first | (exfalso;omega) | rfl | exact congrArg _ (by omega)
end Go.Proofs.Ytemmjmplhknemaa
namespace Go.Proofs.Ytemmjmplhknemaa
open Go.RowKit
theorem swapRange_z (B g N cap a b n:Nat) (xs:List (Int×Int)) (w:World) (x y z:Int) (hx:x=a) (hy:y=b) (hz:z=n) (hBg:B≤g) (hN:xs.length=N) (hN2:N≤4000000000000) (hab:a+n≤b) (hb:b+n≤N)
  (ho:OwnS w B (.slice (some ⟨g,0,none⟩) N cap) xs):
  Calls Try.prog 97 #[.slice (some ⟨g,0,none⟩) N cap,.int .i64 x,.int .i64 y,.int .i64 z,.func (.func 89) #[] #[]] w
   (InPlace w B g N cap (fun ys=>ys=swapTo xs a b n)):=by
 subst hx hy hz
 exact swapRange_any B g N cap a b n xs w hBg hN hN2 hab hb ho
def RotRel (w:World) (B g N cap a m b:Nat) (xs:List (Int×Int)) (vi vj:Value) (wr:World):Prop:=
 ∃(i j:Nat) (zs:List (Int×Int)),vi= .int .i64 i∧vj= .int .i64 j∧1≤i∧1≤j∧a+i≤m∧m+j≤b∧Below B w wr∧zs.length=N∧Seg a b xs zs∧OwnS wr B (.slice (some ⟨g,0,none⟩) N cap) zs∧
  (∀ys,Rot (m - i) m (m+j) zs ys→Rot a m b xs ys)
theorem rotate_any (B g N cap a m b:Nat) (xs:List (Int×Int)) (w:World) (hBg:B≤g) (hN:xs.length=N) (hN2:N≤4000000000000) (ham:a < m) (hmb:m < b) (hb:b≤N)
  (ho:OwnS w B (.slice (some ⟨g,0,none⟩) N cap) xs):
  Calls Try.prog 96 #[.slice (some ⟨g,0,none⟩) N cap,.int .i64 a,.int .i64 m,.int .i64 b,.func (.func 89) #[] #[]] w
   (InPlace w B g N cap (fun ys=>Seg a b xs ys∧Rot a m b xs ys)):=by
 have HO:=zH ho
 have HN:=zH hN
 clear ho hN
 have i1:(a:Int) < (m:Int):=by omega
 have i2:(m:Int) < (b:Int):=by omega
 have i3:(b:Int)≤4000000000000:=by omega
 have i4:(0:Int)≤(a:Int):=by omega
 go_enter Try.func96,Try.ntmps96
 go_wp2_with fail
 go_loopw [10,11] (fun i j wr=>RotRel w B g N cap a m b xs i j wr) (fun i j _=>(intOf i).toNat+(intOf j).toNat)
 case atStart=>exact ⟨m - a,b - m,xs,by congr 1;omega,by congr 1;omega,by omega,by omega,by omega,by omega,Below.refl _ _,HN.out,Seg.refl _ _ _,HO.out,fun ys h=>by rw [show m - (m - a)=a by omega,show m+(b - m)=b by omega]at h;exact h⟩
 case round=>
  obtain ⟨i,j,zs,rfl,rfl,hi1,hj1,hai,hjb,hbel,hzl,hseg,hown,hrot⟩:=hrel
  have HW:=zH hown
  have HBL:=zH hbel
  have HY:=zH hzl
  have HSG:=zH hseg
  have HR:=zH hrot
  clear hown hbel hzl hseg hrot HO HN
  have k1:(a:Int)+(i:Int)≤(m:Int):=by omega
  have k2:(m:Int)+(j:Int)≤(b:Int):=by omega
  have k3:(1:Int)≤(i:Int):=by omega
  have k4:(1:Int)≤(j:Int):=by omega
  by_cases hij:i=j
  ·subst hij
   go_wp2_with fail
   refine (swapRange_z B g N cap (m - i) m i zs _ _ _ _ (by omega) rfl rfl hBg HY.out hN2 (by omega) (by omega) HW.out).mono ?_
   rintro e w1 ⟨rfl,hb1,ys,hyl,rfl,ho1⟩
   have H1:=zH ho1
   have H2:=zH hyl
   have H3:=zH hb1
   clear ho1 hyl hb1
   go_wp2_with fail
   go_end0
   exact ⟨rfl,HBL.out.trans H3.out,_,H2.out,⟨HSG.out.trans (swapTo_seg (by have:=HY.out;omega) (by omega) (by omega) (by omega)),HR.out _ (Rot.last (by omega) (by have:=HY.out;omega))⟩,H1.out⟩
  have hd:((i:Int) !=(j:Int))=true:=by simp;omega
  by_cases hlt:j < i
  ·have k5:(j:Int) < (i:Int):=by omega
   clear hij
   go_wp2_with fail
   refine (swapRange_z B g N cap (m - i) m j zs _ _ _ _ (by omega) rfl rfl hBg HY.out hN2 (by omega) (by omega) HW.out).mono ?_
   rintro e w1 ⟨rfl,hb1,ys,hyl,rfl,ho1⟩
   have H1:=zH ho1
   have H2:=zH hyl
   have H3:=zH (HBL.out.trans hb1)
   clear ho1 hyl hb1
   go_wp2_with fail
   go_roundw
   case rel=>exact ⟨i - j,j,_,by congr 1;omega,rfl,by omega,by omega,by omega,by omega,H3.out,H2.out,HSG.out.trans (swapTo_seg (by have:=HY.out;omega) (by omega) (by omega) (by omega)),H1.out,fun ys h=>HR.out ys (Rot.left (by omega) hlt (by have:=HY.out;omega) h)⟩
   case measure=>simp [intOf];omega
  ·have k5:(i:Int) < (j:Int):=by omega
   have hlt2:i < j:=by omega
   clear hij hlt
   go_wp2_with fail
   refine (swapRange_z B g N cap (m - i) (m+j - i) i zs _ _ _ _ (by omega) (by omega) rfl hBg HY.out hN2 (by omega) (by omega) HW.out).mono ?_
   rintro e w1 ⟨rfl,hb1,ys,hyl,rfl,ho1⟩
   have H1:=zH ho1
   have H2:=zH hyl
   have H3:=zH (HBL.out.trans hb1)
   clear ho1 hyl hb1
   go_wp2_with fail
   go_roundw
   case rel=>exact ⟨i,j - i,_,rfl,by congr 1;omega,by omega,by omega,by omega,by omega,H3.out,H2.out,HSG.out.trans (swapTo_seg (by have:=HY.out;omega) (by omega) (by omega) (by omega)),H1.out,fun ys h=>HR.out ys (Rot.right (by omega) hlt2 (by have:=HY.out;omega) h)⟩
   case measure=>simp [intOf];omega
end Go.Proofs.Ytemmjmplhknemaa
namespace Go.Proofs.Ytemmjmplhknemaa
theorem ltS_trans {x y z:Int×Int} (h:leS x y=true) (k:leS z y=false):leS z x=false:=by
 rw [Bool.eq_false_iff,ne_eq,leS_iff]at*;omega
theorem ltS_trans2 {x y z:Int×Int} (h:leS y x=false) (k:leS y z=true):leS z x=false:=by
 rw [Bool.eq_false_iff,ne_eq,leS_iff]at*;omega
theorem leS_of_lt {x y:Int×Int} (h:leS y x=false):leS x y=true:=leS_of_not (by rw [h];exact Bool.false_ne_true)
theorem Rot.id1 {a b:Nat} (xs:List (Int×Int)):Rot a a b xs xs:=fun p=>by (repeat' split) <;>first | rfl | exact congrArg _ (by omega)
theorem Rot.id2 {a b:Nat} (xs:List (Int×Int)):Rot a b b xs xs:=fun p=>by (repeat' split) <;>first | rfl | (exfalso;omega) | exact congrArg _ (by omega)
theorem Rot.up {a k:Nat} {xs zs:List (Int×Int)} (h:Rot a (a+1) (k+1) xs zs) (hak:a≤k) (hk:k+1 < zs.length):Rot a (a+1) (k+2) xs (swapL zs k (k+1)):=by
 intro p
 rw [gt_swap (by omega) hk,h p,h k,h (k+1)]
 (repeat' split) <;>first | (exfalso;omega) | rfl | exact congrArg _ (by omega)
theorem Rot.down {m k:Nat} {xs zs:List (Int×Int)} (h:Rot (k+1) m (m+1) xs zs) (hkm:k+1≤m) (hm:m < zs.length):Rot k m (m+1) xs (swapL zs (k+1) k):=by
 intro p
 rw [gt_swap (by omega) (by omega),h p,h k,h (k+1)]
 (repeat' split) <;>first | (exfalso;omega) | rfl | exact congrArg _ (by omega)
theorem sym_first {a i b:Nat} {xs ys:List (Int×Int)} (h:Rot a (a+1) i xs ys) (hi:a+1≤i) (hib:i≤b) (hB:Ordered (a+1) b xs) (h1:∀p,a+1≤p→p < i→leS (gt xs a) (gt xs p)=false)
  (h2:∀p,i≤p→p < b→leS (gt xs a) (gt xs p)=true):Ordered a b ys:=by
 intro p q hp hpq hq
 rw [h p,h q]
 have e:∀x,x - (i - (a+1))=a→gt xs (x - (i - (a+1)))=gt xs a:=fun x e=>by rw [e]
 (repeat' split) <;>first
  | (exfalso;omega)
  | exact hB _ _ (by omega) (by omega) (by omega)
  | (rw [e q (by omega)];exact leS_of_lt (h1 _ (by omega) (by omega)))
  | (rw [e p (by omega)];exact h2 _ (by omega) (by omega))
theorem sym_last {a i m:Nat} {xs ys:List (Int×Int)} (h:Rot i m (m+1) xs ys) (hi:a≤i) (him:i≤m) (hA:Ordered a m xs) (h1:∀p,a≤p→p < i→leS (gt xs p) (gt xs m)=true)
  (h2:∀p,i≤p→p < m→leS (gt xs p) (gt xs m)=false):Ordered a (m+1) ys:=by
 intro p q hp hpq hq
 rw [h p,h q]
 have e:∀x,x+(m - i)=m→gt xs (x+(m - i))=gt xs m:=fun x e=>by rw [e]
 (repeat' split) <;>first
  | (exfalso;omega)
  | exact hA _ _ (by omega) (by omega) (by omega)
  | (rw [e q (by omega)];exact h1 _ (by omega) (by omega))
  | (rw [e p (by omega)];exact leS_of_lt (h2 _ (by omega) (by omega)))
structure Split (a s d e b:Nat) (zs:List (Int×Int)):Prop where
 o1:Ordered a s zs
 o2:Ordered s d zs
 o3:Ordered d e zs
 o4:Ordered e b zs
 cross:∀p q,a≤p→p < d→d≤q→q < b→leS (gt zs p) (gt zs q)=true
theorem sym_split {a s m e b d:Nat} {xs zs:List (Int×Int)} (h:Rot s m e xs zs) (has:a≤s) (hsm:s≤m) (hme:m≤e) (heb:e≤b) (hd:d=s+(e - m)) (hA:Ordered a m xs) (hB:Ordered m b xs)
  (h1:a < s→e < b→leS (gt xs (s - 1)) (gt xs e)=true) (h2:s < m→m < e→leS (gt xs (e - 1)) (gt xs s)=true):Split a s d e b zs:=by
 have c1:∀p q,a≤p→p < s→e≤q→q < b→leS (gt xs p) (gt xs q)=true:=fun p q k1 k2 k3 k4=>
  leS_trans _ _ _ (hA.le k1 (by omega:p≤s - 1) (by omega)) (leS_trans _ _ _ (h1 (by omega) (by omega)) (hB.le (by omega) k3 k4))
 have c2:∀p q,m≤p→p < e→s≤q→q < m→leS (gt xs p) (gt xs q)=true:=fun p q k1 k2 k3 k4=>
  leS_trans _ _ _ (hB.le k1 (by omega:p≤e - 1) (by omega)) (leS_trans _ _ _ (h2 (by omega) (by omega)) (hA.le (by omega) k3 k4))
 subst hd
 refine ⟨?_,?_,?_,?_,?_⟩
 ·intro p q k1 k2 k3
  rw [h p,h q,if_pos (by omega),if_pos (by omega)]
  exact hA p q k1 k2 (by omega)
 ·intro p q k1 k2 k3
  rw [h p,h q,if_neg (by omega),if_pos (by omega),if_neg (by omega),if_pos (by omega)]
  exact hB _ _ (by omega) (by omega) (by omega)
 ·intro p q k1 k2 k3
  rw [h p,h q,if_neg (by omega),if_neg (by omega),if_neg (by omega),if_neg (by omega)]
  exact hA _ _ (by omega) (by omega) (by omega)
 ·intro p q k1 k2 k3
  rw [h p,h q,if_pos (by omega),if_pos (by omega)]
  exact hB p q (by omega) k2 k3
 ·intro p q k1 k2 k3 k4
  rw [h p,h q]
  (repeat' split) <;>first
   | (exfalso;omega)
   | exact c1 _ _ (by omega) (by omega) (by omega) (by omega)
   | exact c2 _ _ (by omega) (by omega) (by omega) (by omega)
   | exact hA _ _ (by omega) (by omega) (by omega)
   | exact hB _ _ (by omega) (by omega) (by omega)
theorem Split.done {a s d e b:Nat} {zs ls rs:List (Int×Int)} (h:Split a s d e b zs) (has:a≤s) (hsd:s≤d) (hde:d≤e) (heb:e≤b) (hl:Seg a d zs ls) (hol:Ordered a d ls) (hr:Seg d b ls rs) (hor:Ordered d b rs):Seg a b zs rs∧Ordered a b rs:=by
 refine ⟨(hl.mono (Nat.le_refl _) (by omega)).trans (hr.mono (by omega) (Nat.le_refl _)),Ordered.join (m:=d) (hol.congr fun i h1 h2=>hr.out i (by omega)) hor fun i j h1 h2 h3 h4=> ?_⟩
 rw [hr.out i (by omega)]
 obtain ⟨k,k1,k2,e1⟩:=hl.sub i h1 h2
 obtain ⟨l,l1,l2,e2⟩:=hr.sub j h3 h4
 rw [e1,e2,hl.out l (by omega)]
 exact h.cross k l k1 k2 l1 l2
inductive Blk (bs N:Nat) (zs:List (Int×Int)):Nat→Prop
 | last (p:Nat):p≤N→N≤p+bs→Ordered p N zs→Blk bs N zs p
 | cons (p:Nat):p+bs≤N→Ordered p (p+bs) zs→Blk bs N zs (p+bs)→Blk bs N zs p
inductive DBlk (bs:Nat) (zs:List (Int×Int)):Nat→Prop
 | zero:DBlk bs zs 0
 | snoc (p:Nat):DBlk bs zs p→Ordered p (p+bs) zs→DBlk bs zs (p+bs)
theorem DBlk.congr {bs p:Nat} {zs ys:List (Int×Int)} (h:DBlk bs zs p):(∀i,i < p→gt ys i=gt zs i)→DBlk bs ys p:=by
 induction h with
 | zero=>intro _;exact DBlk.zero
 | snoc p h1 h2 ih=>intro e;exact DBlk.snoc p (ih fun i hi=>e i (by omega)) (h2.congr fun i h3 h4=>e i h4)
theorem Blk.congr {bs N p:Nat} {zs ys:List (Int×Int)} (h:Blk bs N zs p):(∀i,p≤i→gt ys i=gt zs i)→Blk bs N ys p:=by
 induction h with
 | last p h1 h2 h3=>intro e;exact Blk.last p h1 h2 (h3.congr fun i h3 h4=>e i h3)
 | cons p h1 h2 h3 ih=>intro e;exact Blk.cons p h1 (h2.congr fun i h3 h4=>e i h3) (ih fun i hi=>e i (by omega))
theorem DBlk.all {bs N p:Nat} {zs:List (Int×Int)} (h:DBlk bs zs p):Blk bs N zs p→p≤N→Blk bs N zs 0:=by
 induction h with
 | zero=>intro h _;exact h
 | snoc p h1 h2 ih=>intro h hp;exact ih (Blk.cons p hp h2 h) (by omega)
theorem Blk.two {bs N p:Nat} {zs:List (Int×Int)} (h:Blk bs N zs p) (hb:0 < bs) (hp:p+2*bs≤N):Ordered p (p+bs) zs∧Ordered (p+bs) (p+2*bs) zs∧Blk bs N zs (p+2*bs):=by
 cases h with
 | last _ h1 h2 h3=>omega
 | cons _ h1 h2 h3=>
  refine ⟨h2,?_⟩
  cases h3 with
  | last _ k1 k2 k3=>
   have e:N=p+2*bs:=by omega
   exact ⟨e ▸ k3,Blk.last _ hp (by omega) fun i j h1 h2 h3=>by omega⟩
  | cons _ k1 k2 k3=>
   rw [show p+bs+bs=p+2*bs by omega]at k2 k3
   exact ⟨k2,k3⟩
theorem Blk.lastTwo {bs N p:Nat} {zs:List (Int×Int)} (h:Blk bs N zs p) (hp:p+bs < N) (hq:N < p+2*bs):Ordered p (p+bs) zs∧Ordered (p+bs) N zs:=by
 cases h with
 | last _ h1 h2 h3=>omega
 | cons _ h1 h2 h3=>
  refine ⟨h2,?_⟩
  cases h3 with
  | last _ k1 k2 k3=>exact k3
  | cons _ k1 k2 k3=>omega
theorem Blk.one {bs N p:Nat} {zs:List (Int×Int)} (h:Blk bs N zs p) (hp:N≤p+bs):Ordered p N zs:=by
 cases h with
 | last _ h1 h2 h3=>exact h3
 | cons _ h1 h2 h3=>exact h2.sub (Nat.le_refl _) hp
def LeftB (a s:Int) (xs:List (Int×Int)) (p:Int):Prop:=hasB a s p=true∧coveredB xs p=false
def GapsOf (a s:Int) (xs zs:List (Int×Int)):Prop:=Canon zs (LeftB a s xs)
def stepG (st:List (Int×Int)×Int) (x:Int×Int):List (Int×Int)×Int:=(if st.2 < x.1 then st.1++ [(st.2,x.1 - st.2)]else st.1,max st.2 (x.1+x.2))
def foldG (a:Int) (l:List (Int×Int)):List (Int×Int)×Int:=l.foldl stepG ([],a)
def restG (a s:Int) (st:List (Int×Int)×Int):List (Int×Int):=if st.2 < a+s then st.1++ [(st.2,a+s - st.2)]else st.1
theorem foldG_snoc (a:Int) (l:List (Int×Int)) (x:Int×Int):foldG a (l++ [x])=stepG (foldG a l) x:=by simp [foldG]
structure InvG (a:Int) (l:List (Int×Int)) (st:List (Int×Int)×Int):Prop where
 canon:Canon st.1 (fun p=>a≤p∧p < st.2∧¬∃x∈l,InS x p)
 lt:∀y∈st.1,y.1+y.2 < st.2
 ends:∀x∈l,x.1+x.2≤st.2
 att:st.2=a∨∃x∈l,st.2=x.1+x.2
 ge:a≤st.2
theorem InvG.step {a:Int} {l:List (Int×Int)} {st:List (Int×Int)×Int} {x:Int×Int} (h:InvG a l st) (hx:1≤x.2) (hl:∀y∈l,y.1+y.2 < x.1):InvG a (l++ [x]) (stepG st x):=by
 obtain ⟨out,at0⟩:=st
 obtain ⟨hc,hlt,he,ha,hg⟩:=h
 simp only at hc hlt he ha hg
 have hpre:∀p,(∃y∈l++ [x],InS y p)↔(∃y∈l,InS y p)∨InS x p:=by
  intro p
  constructor
  ·rintro ⟨y,hy,hp⟩
   rw [List.mem_append,List.mem_singleton]at hy
   rcases hy with hy | rfl
   ·exact .inl ⟨y,hy,hp⟩
   ·exact .inr hp
  ·rintro (⟨y,hy,hp⟩ | hp)
   ·exact ⟨y,by simp [hy],hp⟩
   ·exact ⟨x,by simp,hp⟩
 have hno:∀p,at0≤p→¬∃y∈l,InS y p:=by
  rintro p hp ⟨y,hy,h1,h2⟩
  have:=he y hy
  omega
 have ends':∀y∈l++ [x],y.1+y.2≤max at0 (x.1+x.2):=by
  intro y hy
  rw [List.mem_append,List.mem_singleton]at hy
  rcases hy with hy | rfl
  ·have:=he y hy;omega
  ·omega
 by_cases hj:at0 < x.1
 ·have e:stepG (out,at0) x=(out++ [(at0,x.1 - at0)],max at0 (x.1+x.2)):=by simp [stepG,hj]
  rw [e]
  refine ⟨canon_append hc (by simp only;omega) hlt fun p=> ?_,fun y hy=> ?_,ends',.inr ⟨x,by simp,by simp only;omega⟩,by simp only;omega⟩
  ·simp only [hpre p]
   constructor
   ·rintro ⟨h1,h2,h3⟩
    by_cases hp:p < at0
    ·exact .inl ⟨h1,hp,fun h=>h3 (.inl h)⟩
    ·refine .inr ⟨by simp only;omega,?_⟩
     have:¬InS x p:=fun h=>h3 (.inr h)
     simp only [InS]at this⊢
     omega
   ·rintro (⟨h1,h2,h3⟩ | ⟨h1,h2⟩)
    ·exact ⟨h1,by omega,fun h=>h.elim h3 (fun ⟨h4,_⟩=>by omega)⟩
    ·simp only at h1 h2
     exact ⟨by omega,by omega,fun h=>h.elim (hno p h1) (fun ⟨h4,_⟩=>by omega)⟩
  ·rw [List.mem_append,List.mem_singleton]at hy
   rcases hy with hy | rfl
   ·have:=hlt y hy;simp only;omega
   ·simp only;omega
 ·have e:stepG (out,at0) x=(out,max at0 (x.1+x.2)):=by simp [stepG,hj]
  have hat:at0=a:=by
   rcases ha with h | ⟨y,hy,h⟩
   ·exact h
   ·have:=hl y hy;omega
  rw [e]
  refine ⟨hc.congr fun p=> ?_,fun y hy=>by have:=hlt y hy;simp only;omega,ends',?_,by simp only;omega⟩
  ·simp only [hpre p]
   constructor
   ·rintro ⟨h1,h2,h3⟩;omega
   ·rintro ⟨h1,h2,h3⟩
    exfalso
    have:¬InS x p:=fun h=>h3 (.inr h)
    simp only [InS]at this
    omega
  ·by_cases hm:at0≤x.1+x.2
   ·exact .inr ⟨x,by simp,by simp only;omega⟩
   ·exact .inl (by simp only;omega)
theorem InvG.start (a:Int):InvG a [] ([],a):=⟨Canon.nil (by intro p;simp only;omega),by simp,by simp,.inl rfl,Int.le_refl _⟩
theorem invG (a:Int) (js:List (Int×Int)) (hp:∀x∈js,1≤x.2) (ha:js.Pairwise (fun x y=>x.1+x.2 < y.1)):∀pre,pre <+:js→InvG a pre (foldG a pre):=by
 intro pre
 obtain ⟨n,hn⟩:∃n,pre.length=n:=⟨_,rfl⟩
 induction n generalizing pre with
 | zero=>
  intro _
  obtain rfl:=List.eq_nil_of_length_eq_zero hn
  exact InvG.start a
 | succ n ih=>
  intro h
  rcases List.eq_nil_or_concat pre with rfl | ⟨ys,x,rfl⟩
  ·simp at hn
  rw [List.concat_eq_append]at*
  have hys:ys <+:js:=(List.prefix_append ys [x]).trans h
  rw [foldG_snoc]
  have hpw:=ha.sublist h.sublist
  rw [List.pairwise_append]at hpw
  exact (ih ys (by simpa using hn) hys).step (hp x (h.subset (by simp))) fun y hy=>hpw.2.2 y hy x (by simp)
theorem gaps_all {a s:Int} {xs js:List (Int×Int)} (hm:mayB a s=true) (hj:JoinOf xs js) {pre:List (Int×Int)} (hpre:pre <+:js) (hlt:∀x∈pre,x.1 < a+s)
  (hrest:pre=js∨∃x,pre++ [x] <+:js∧a+s≤x.1):GapsOf a s xs (restG a s (foldG a pre)):=by
 have hI:=invG a js hj.pos hj.apart pre hpre
 have hmb:=may_bd hm
 have hcov:∀p,p < a+s→(coveredB xs p=true↔∃x∈pre,InS x p):=by
  intro p hp
  rw [←hj.mem p]
  constructor
  ·rintro ⟨y,hy,h1,h2⟩
   rcases hrest with rfl | ⟨x,⟨tl,ht⟩,hx⟩
   ·exact ⟨y,hy,h1,h2⟩
   ·rw [←ht,List.mem_append,List.mem_append,List.mem_singleton]at hy
    rcases hy with (hy | rfl) | hy
    ·exact ⟨y,hy,h1,h2⟩
    ·omega
    ·have hap:=hj.apart
     rw [←ht,List.pairwise_append]at hap
     have:=hap.2.2 x (by simp) y hy
     have:=hj.pos x (by rw [←ht];simp)
     omega
  ·rintro ⟨y,hy,h⟩
   exact ⟨y,hpre.subset hy,h⟩
 generalize foldG a pre=st at*
 obtain ⟨out,at0⟩:=st
 obtain ⟨hc,hl,he,ha,hg⟩:=hI
 simp only at hc hl he ha hg
 have hleft:∀p,LeftB a s xs p↔a≤p∧p < a+s∧¬∃x∈pre,InS x p:=by
  intro p
  unfold LeftB
  rw [hasB_iff]
  constructor
  ·rintro ⟨⟨_,h1,h2⟩,h3⟩
   exact ⟨h1,h2,fun h=>by rw [(hcov p h2).2 h]at h3;cases h3⟩
  ·rintro ⟨h1,h2,h3⟩
   refine ⟨⟨hm,h1,h2⟩,?_⟩
   cases hb:coveredB xs p
   ·rfl
   ·exact absurd ((hcov p h2).1 hb) h3
 have hno:∀p,at0≤p→¬∃y∈pre,InS y p:=by
  rintro p hp ⟨y,hy,h1,h2⟩
  have:=he y hy
  omega
 unfold restG GapsOf
 by_cases hr:at0 < a+s
 ·rw [if_pos hr]
  refine canon_append hc (by simp only;omega) hl fun p=> ?_
  rw [hleft p]
  constructor
  ·rintro ⟨h1,h2,h3⟩
   by_cases hp:p < at0
   ·exact .inl ⟨h1,hp,h3⟩
   ·exact .inr ⟨by simp only;omega,by simp only;omega⟩
  ·rintro (⟨h1,h2,h3⟩ | ⟨h1,h2⟩)
   ·exact ⟨h1,by omega,h3⟩
   ·simp only at h1 h2
    exact ⟨by omega,by omega,hno p h1⟩
 ·rw [if_neg hr]
  refine hc.congr fun p=> ?_
  rw [hleft p]
  constructor
  ·rintro ⟨h1,h2,h3⟩
   refine ⟨h1,?_,h3⟩
   rcases ha with h | ⟨y,hy,h⟩
   ·omega
   ·rcases Int.lt_or_le p (a+s)with h4 | h4
    ·exact h4
    ·have:=hlt y hy
     exact absurd ⟨y,hy,by omega,by omega⟩ h3
  ·rintro ⟨h1,h2,h3⟩;exact ⟨h1,by omega,h3⟩
end Go.Proofs.Ytemmjmplhknemaa
namespace Go.Proofs.Ytemmjmplhknemaa
open Go.RowKit
section
variable {α : Type} {e : TypeId} {n : Nat} {f : α → List Value} {B : Nat} {v : Value} {xs ys : List α} {w : World} {P : Program} {bytes : Nat}
theorem Own.lit (hf:Cells n f) (ys:List α) (cs:Array Value) (hcs:cs=(ys.flatMap f).toArray) (m:Nat) (hm:ys.length=m) (hB:B≤w.heap.size) (h63:m≤maxLen) (H:Nat) (hH:w.heap.size=H):
  Own e n f (w.alloc (.cells cs e)) B (.slice (some ⟨H,0,none⟩) m m) ys:=by
 subst hcs hm hH
 refine ⟨flat_len hf ys,.inr ⟨w.heap.size,ys.length,_,rfl,hB,heap_alloc_new w _,Nat.le_refl _,h63,by simp [flat_len hf],?_⟩⟩
 rw [List.take_of_length_le (by simp [flat_len hf])]
end
end Go.Proofs.Ytemmjmplhknemaa
