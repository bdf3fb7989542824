/- Merged by program (merge.py) out of: Ref03C, JoinSpec, Ref03D, Ref03E, RowsSpec, SortA, SortB, RotSpec. -/
import Derived.Test.YtphpppjfogpohaaGreatMx7
import Derived.Test.YtphpppjfogpohaaGreatMx8
set_option linter.unusedSimpArgs false
set_option linter.unusedVariables false
set_option maxRecDepth 100000
set_option maxHeartbeats 16000000
namespace Go.Proofs.YtphpppjfogpohaaGreat
open Go.RowKit
end Go.Proofs.YtphpppjfogpohaaGreat
namespace Go.Proofs.YtphpppjfogpohaaGreat
abbrev InS (x:Int×Int) (p:Int):Prop:=x.1≤p∧p < x.1+x.2
structure Canon (zs:List (Int×Int)) (S:Int→Prop):Prop where
 pos:∀x∈zs,1≤x.2
 apart:zs.Pairwise (fun x y=>x.1+x.2 < y.1)
 mem:∀p,(∃x∈zs,InS x p)↔S p
theorem Canon.nil {S:Int→Prop} (h:∀p,¬S p):Canon [] S:=⟨by simp,List.Pairwise.nil,fun p=>by simp [h p]⟩
theorem Canon.congr {zs:List (Int×Int)} {S T:Int→Prop} (h:Canon zs S) (e:∀p,S p↔T p):Canon zs T:=⟨h.pos,h.apart,fun p=>(h.mem p).trans (e p)⟩
theorem Canon.tail {x:Int×Int} {zs:List (Int×Int)} {S:Int→Prop} (h:Canon (x::zs) S):Canon zs (fun p=>S p∧x.1+x.2≤p):=by
 have ha:=h.apart
 rw [List.pairwise_cons]at ha
 refine ⟨fun y hy=>h.pos y (by simp [hy]),ha.2,fun p=>⟨fun ⟨y,hy,hp⟩=>⟨(h.mem p).1 ⟨y,by simp [hy],hp⟩,?_⟩,fun ⟨hs,hp⟩=> ?_⟩⟩
 ·have:=ha.1 y hy
  have:=hp.1
  omega
 ·obtain ⟨y,hy,hyp⟩:=(h.mem p).2 hs
  rw [List.mem_cons]at hy
  rcases hy with rfl | hy
  ·have:=hyp.2;omega
  ·exact ⟨y,hy,hyp⟩
theorem Canon.unique:∀ {zs ys:List (Int×Int)} {S:Int→Prop},Canon zs S→Canon ys S→zs=ys:=by
 intro zs
 induction zs with
 | nil=>
  intro ys S h k
  cases ys with
  | nil=>rfl
  | cons y ys=>
   have:=(k.mem y.1).1 ⟨y,by simp,by have:=k.pos y (by simp);exact ⟨by omega,by omega⟩⟩
   have:=(h.mem y.1).2 this
   simp at this
 | cons x zs ih=>
  intro ys S h k
  cases ys with
  | nil=>
   have:=(h.mem x.1).1 ⟨x,by simp,by have:=h.pos x (by simp);exact ⟨by omega,by omega⟩⟩
   have:=(k.mem x.1).2 this
   simp at this
  | cons y ys=>
   have hx:=h.pos x (by simp)
   have hy:=k.pos y (by simp)
   have hxa:=h.apart
   have hya:=k.apart
   rw [List.pairwise_cons]at hxa hya
   have lo:∀ {a b:Int×Int} {l m:List (Int×Int)},Canon (a::l) S→Canon (b::m) S→b.1≤a.1:=by
    intro a b l m ha hb
    have hpa:=ha.pos a (by simp)
    have hba:=hb.apart
    rw [List.pairwise_cons]at hba
    have h1:=(ha.mem a.1).1 ⟨a,by simp,⟨by omega,by omega⟩⟩
    obtain ⟨c,hc,hcp⟩:=(hb.mem a.1).2 h1
    rw [List.mem_cons]at hc
    rcases hc with rfl | hc
    ·exact hcp.1
    ·have:=hba.1 c hc;have:=hcp.1;have:=hb.pos b (by simp);omega
   have e1:x.1=y.1:=by have:=lo h k;have:=lo k h;omega
   have hi:∀ {a b:Int×Int} {l m:List (Int×Int)},Canon (a::l) S→Canon (b::m) S→a.1=b.1→a.1+a.2≤b.1+b.2:=by
    intro a b l m ha hb e
    rcases Int.lt_or_le (b.1+b.2) (a.1+a.2)with hlt | hle
    ·have hpb:=hb.pos b (by simp)
     have hba:=hb.apart
     rw [List.pairwise_cons]at hba
     have h1:=(ha.mem (b.1+b.2)).1 ⟨a,by simp,⟨by omega,by omega⟩⟩
     obtain ⟨c,hc,hcp⟩:=(hb.mem (b.1+b.2)).2 h1
     rw [List.mem_cons]at hc
     rcases hc with rfl | hc
     ·have:=hcp.2;omega
     ·have:=hba.1 c hc;have:=hcp.1;omega
    ·exact hle
   have e2:x.2=y.2:=by have:=hi h k e1;have:=hi k h e1.symm;omega
   obtain rfl:x=y:=Prod.ext e1 e2
   rw [ih h.tail k.tail]
theorem hasB_iff {a s p:Int}:hasB a s p=true↔mayB a s=true∧a≤p∧p < a+s:=by simp [hasB]
theorem covered_iff {xs:List (Int×Int)} {p:Int}:coveredB xs p=true↔∃x∈xs,mayB x.1 x.2=true∧InS x p:=by
 unfold coveredB
 rw [List.any_eq_true]
 constructor
 ·rintro ⟨x,hx,h⟩;exact ⟨x,hx,hasB_iff.1 h⟩
 ·rintro ⟨x,hx,h⟩;exact ⟨x,hx,hasB_iff.2 h⟩
end Go.Proofs.YtphpppjfogpohaaGreat
namespace Go.Proofs.YtphpppjfogpohaaGreat
open Go.RowKit
def JoinOf (xs zs:List (Int×Int)):Prop:=Canon zs (fun p=>coveredB xs p=true)
end Go.Proofs.YtphpppjfogpohaaGreat
namespace Go.Proofs.YtphpppjfogpohaaGreat
def stepJ (st:List (Int×Int)×(Int×Int)) (x:Int×Int):List (Int×Int)×(Int×Int):=
 if mayB x.1 x.2=true then
  if 0 < st.2.2∧x.1≤st.2.1+st.2.2 then (st.1,(st.2.1,max (st.2.1+st.2.2) (x.1+x.2) - st.2.1))
  else (if 0 < st.2.2 then st.1++ [st.2]else st.1,x)
 else st
def foldJ (l:List (Int×Int)):List (Int×Int)×(Int×Int):=l.foldl stepJ ([],(0,0))
def flushJ (st:List (Int×Int)×(Int×Int)):List (Int×Int):=if 0 < st.2.2 then st.1++ [st.2]else st.1
def joinZ (zs:List (Int×Int)):List (Int×Int):=flushJ (foldJ zs)
def joinL (xs:List (Int×Int)):List (Int×Int):=joinZ (sortS xs)
theorem foldJ_snoc (l:List (Int×Int)) (x:Int×Int):foldJ (l++ [x])=stepJ (foldJ l) x:=by simp [foldJ]
theorem foldJ_take {zs:List (Int×Int)} {k:Nat} (hk:k < zs.length):foldJ (zs.take (k+1))=stepJ (foldJ (zs.take k)) (zs.getD k (0,0)):=by
 rw [List.take_succ_eq_append_getElem hk,foldJ_snoc]
 simp [List.getElem?_eq_getElem hk]
theorem stepJ_prefix (st:List (Int×Int)×(Int×Int)) (x:Int×Int):st.1 <+:(stepJ st x).1:=by
 unfold stepJ
 split
 ·split
  ·exact List.prefix_refl _
  ·simp only
   split
   ·exact List.prefix_append _ _
   ·exact List.prefix_refl _
 ·exact List.prefix_refl _
theorem foldl_prefix (l:List (Int×Int)):∀st,st.1 <+:(l.foldl stepJ st).1:=by
 induction l with
 | nil=>exact fun st=>List.prefix_refl _
 | cons x l ih=>exact fun st=>(stepJ_prefix st x).trans (ih _)
theorem flush_prefix (st:List (Int×Int)×(Int×Int)):st.1 <+:flushJ st:=by
 unfold flushJ
 split
 ·exact List.prefix_append _ _
 ·exact List.prefix_refl _
theorem fold_prefix (zs:List (Int×Int)) (k:Nat):(foldJ (zs.take k)).1 <+:joinZ zs:=by
 have h:foldJ zs=(zs.drop k).foldl stepJ (foldJ (zs.take k)):=by
  conv=>lhs;rw [←List.take_append_drop k zs]
  simp only [foldJ,List.foldl_append]
 unfold joinZ
 rw [h]
 exact (foldl_prefix _ _).trans (flush_prefix _)
structure InvJ (l:List (Int×Int)) (st:List (Int×Int)×(Int×Int)):Prop where
 may:0 < st.2.2→mayB st.2.1 st.2.2=true
 zero:0≤st.2.2
 none:¬0 < st.2.2→st.1= []
 first:0 < st.2.2→∃y∈l,st.2.1=y.1
 canon:Canon (flushJ st) (fun p=>coveredB l p=true)
theorem canon_append {zs:List (Int×Int)} {S T:Int→Prop} {x:Int×Int} (h:Canon zs S) (hx:1≤x.2) (ha:∀y∈zs,y.1+y.2 < x.1) (hT:∀p,T p↔S p∨InS x p):Canon (zs++ [x]) T:=by
 refine ⟨?_,?_,fun p=> ?_⟩
 ·intro y hy
  rw [List.mem_append,List.mem_singleton]at hy
  rcases hy with hy | rfl
  ·exact h.pos y hy
  ·exact hx
 ·rw [List.pairwise_append]
  refine ⟨h.apart,by simp,fun y hy z hz=> ?_⟩
  rw [List.mem_singleton]at hz
  subst hz
  exact ha y hy
 ·rw [hT p,←h.mem p]
  constructor
  ·rintro ⟨y,hy,hp⟩
   rw [List.mem_append,List.mem_singleton]at hy
   rcases hy with hy | rfl
   ·exact .inl ⟨y,hy,hp⟩
   ·exact .inr hp
  ·rintro (⟨y,hy,hp⟩ | hp)
   ·exact ⟨y,by simp [hy],hp⟩
   ·exact ⟨x,by simp,hp⟩
theorem covered_snoc (l:List (Int×Int)) (x:Int×Int) (p:Int):coveredB (l++ [x]) p=true↔coveredB l p=true∨(mayB x.1 x.2=true∧InS x p):=by
 rw [covered_iff,covered_iff]
 constructor
 ·rintro ⟨y,hy,hm,hp⟩
  rw [List.mem_append,List.mem_singleton]at hy
  rcases hy with hy | rfl
  ·exact .inl ⟨y,hy,hm,hp⟩
  ·exact .inr ⟨hm,hp⟩
 ·rintro (⟨y,hy,hm,hp⟩ | ⟨hm,hp⟩)
  ·exact ⟨y,by simp [hy],hm,hp⟩
  ·exact ⟨x,by simp,hm,hp⟩
theorem InvJ.start:InvJ [] ([],(0,0)):=⟨by simp,by simp,by simp,by simp,by
 have:flushJ ([],(0,0))= []:=by simp [flushJ]
 rw [this]
 exact Canon.nil (by simp [coveredB])⟩
theorem InvJ.step {l:List (Int×Int)} {st:List (Int×Int)×(Int×Int)} {x:Int×Int} (h:InvJ l st) (hx:∀y∈l,y.1≤x.1):InvJ (l++ [x]) (stepJ st x):=by
 obtain ⟨em,a,s⟩:=st
 by_cases hm:mayB x.1 x.2=true
 rotate_left
 ·have e:stepJ (em,a,s) x=(em,a,s):=by simp [stepJ,hm]
  rw [e]
  refine ⟨h.may,h.zero,h.none,fun h0=> ?_,h.canon.congr fun p=> ?_⟩
  ·obtain ⟨y,hy,e⟩:=h.first h0
   exact ⟨y,by simp [hy],e⟩
  ·rw [covered_snoc];simp [hm]
 have hxb:=may_bd hm
 by_cases h0:0 < s
 ·have hob:=may_bd (h.may h0)
  simp only at hob
  have hc:=h.canon
  have hf:flushJ (em,a,s)=em++ [(a,s)]:=by simp [flushJ,h0]
  rw [hf]at hc
  have hap:=hc.apart
  rw [List.pairwise_append]at hap
  obtain ⟨hap1, -,hap3⟩:=hap
  obtain ⟨y0,hy0,e0⟩:=h.first h0
  simp only at e0
  have hax:a≤x.1:=by have:=hx y0 hy0;omega
  have hem:Canon em (fun p=>coveredB l p=true∧p < a):=by
   refine ⟨fun y hy=>hc.pos y (by simp [hy]),hap1,fun p=> ?_⟩
   have:=hc.mem p
   constructor
   ·rintro ⟨y,hy,hp⟩
    refine ⟨this.1 ⟨y,by simp [hy],hp⟩,?_⟩
    have:=hap3 y hy (a,s) (by simp)
    have:=hp.2
    simp only at*
    omega
   ·rintro ⟨hp,hlt⟩
    obtain ⟨y,hy,hyp⟩:=this.2 hp
    rw [List.mem_append,List.mem_singleton]at hy
    rcases hy with hy | rfl
    ·exact ⟨y,hy,hyp⟩
    ·have:=hyp.1;simp only at this;omega
  have hcov:∀p,coveredB l p=true↔(coveredB l p=true∧p < a)∨InS (a,s) p:=by
   intro p
   constructor
   ·intro hp
    obtain ⟨y,hy,hyp⟩:=(hc.mem p).2 hp
    rw [List.mem_append,List.mem_singleton]at hy
    rcases hy with hy | rfl
    ·exact .inl ((hem.mem p).1 ⟨y,hy,hyp⟩)
    ·exact .inr hyp
   ·rintro (hp | hp)
    ·exact hp.1
    ·exact (hc.mem p).1 ⟨(a,s),by simp,hp⟩
  by_cases hj:x.1≤a+s
  ·have e:stepJ (em,a,s) x=(em,(a,max (a+s) (x.1+x.2) - a)):=by simp [stepJ,hm,h0,hj]
   rw [e]
   have hpos:0 < max (a+s) (x.1+x.2) - a:=by omega
   refine ⟨fun _=> ?_,by simp only;omega,fun hn=>absurd hpos hn,fun _=>⟨y0,by simp [hy0],e0⟩,?_⟩
   ·simp only [mayB,decide_eq_true_eq];omega
   ·have hf2:flushJ (em,(a,max (a+s) (x.1+x.2) - a))=em++ [(a,max (a+s) (x.1+x.2) - a)]:=by simp only [flushJ];rw [if_pos hpos]
    rw [hf2]
    refine canon_append hem (by simp only;omega) (fun y hy=>hap3 y hy (a,s) (by simp)) fun p=> ?_
    rw [covered_snoc]
    have hcp:=hcov p
    constructor
    ·intro h3
     rcases (show ((coveredB l p=true∧p < a)∨InS (a,s) p)∨(mayB x.1 x.2=true∧InS x p)from h3.imp hcp.1 id)with (hp | ⟨p1,p2⟩) | ⟨-,p1,p2⟩
     ·exact .inl hp
     ·exact .inr ⟨p1,by simp only at*;omega⟩
     ·exact .inr ⟨by simp only at*;omega,by simp only at*;omega⟩
    ·rintro (hp | ⟨p1,p2⟩)
     ·exact .inl hp.1
     ·simp only at p1 p2
      by_cases hq:p < a+s
      ·exact .inl (hcp.2 (.inr ⟨p1,hq⟩))
      ·exact .inr ⟨hm,by omega,by omega⟩
  ·have e : stepJ (em, a, s) x = (em ++ [(a, s)], x) := by
    simp only [stepJ,hm,if_true]
    rw [if_neg (fun h=>hj h.2),if_pos h0]
   rw [e]
   refine ⟨fun _=>hm,by simp only;omega,fun hn=>absurd (show 0 < x.2 by omega) hn,fun _=>⟨x,by simp,rfl⟩,?_⟩
   have hf2:flushJ (em++ [(a,s)],x)=em++ [(a,s)]++ [x]:=by simp only [flushJ];rw [if_pos (by omega)]
   rw [hf2]
   refine canon_append hc (by omega) (fun y hy=> ?_) fun p=> ?_
   ·rw [List.mem_append,List.mem_singleton]at hy
    rcases hy with hy | rfl
    ·have:=hap3 y hy (a,s) (by simp)
     simp only at this
     omega
    ·simp only;omega
   ·rw [covered_snoc];simp [hm]
 ·have h1:s=0:=by have:=h.zero;simp only at this;omega
  have h2:em= []:=h.none h0
  subst h1 h2
  have e:stepJ ([],(a,0)) x=([],x):=by simp [stepJ,hm]
  rw [e]
  refine ⟨fun _=>hm,by simp only;omega,fun hn=>absurd (show 0 < x.2 by omega) hn,fun _=>⟨x,by simp,rfl⟩,?_⟩
  have hf:flushJ ([],(a,0))= []:=by simp [flushJ]
  have hf2:flushJ ([],x)= []++ [x]:=by simp only [flushJ];rw [if_pos (by omega)]
  have hc:=h.canon
  rw [hf]at hc
  rw [hf2]
  refine canon_append hc (by omega) (by simp) fun p=> ?_
  rw [covered_snoc];simp [hm]
theorem invJ (zs:List (Int×Int)) (hs:zs.Pairwise (fun x y=>leS x y=true)):∀k,k≤zs.length→InvJ (zs.take k) (foldJ (zs.take k)):=by
 intro k
 induction k with
 | zero=>intro _;simpa [foldJ]using InvJ.start
 | succ k ih=>
  intro hk
  have h1:=ih (by omega)
  rw [List.take_succ_eq_append_getElem (by omega),foldJ_snoc]
  refine h1.step fun y hy=> ?_
  obtain ⟨i,hi,rfl⟩:=List.getElem_of_mem hy
  have hi':i < k:=by simp at hi;omega
  rw [List.getElem_take]
  have:=List.pairwise_iff_getElem.1 hs i k (by omega) (by omega) hi'
  rw [leS_iff]at this
  omega
theorem join_canon (xs:List (Int×Int)):JoinOf xs (joinL xs):=by
 have h:=(invJ (sortS xs) (sortS_sorted xs) _ (Nat.le_refl _)).canon
 rw [List.take_length]at h
 refine Canon.congr h fun p=> ?_
 rw [covered_iff,covered_iff]
 exact ⟨fun ⟨x,hx,h⟩=>⟨x,sortS_mem.1 hx,h⟩,fun ⟨x,hx,h⟩=>⟨x,sortS_mem.2 hx,h⟩⟩
theorem join_length (zs:List (Int×Int)):(joinZ zs).length≤zs.length:=by
 have h:∀(l:List (Int×Int)) (st:List (Int×Int)×(Int×Int)),(flushJ (l.foldl stepJ st)).length≤(flushJ st).length+l.length:=by
  intro l
  induction l with
  | nil=>intro st;simp
  | cons x l ih=>
   intro st
   refine Nat.le_trans (ih _) ?_
   have:(flushJ (stepJ st x)).length≤(flushJ st).length+1:=by
    unfold stepJ
    split
    ·split
     ·rename_i h
      unfold flushJ
      simp only
      rw [if_pos h.1]
      split <;>simp <;>omega
     ·unfold flushJ
      simp only
      split <;>split <;>simp
    ·omega
   simp only [List.length_cons]
   omega
 have:=h zs ([],(0,0))
 have h0:flushJ ([],(0,0))= []:=by simp [flushJ]
 rw [h0,List.length_nil,Nat.zero_add]at this
 exact this
end Go.Proofs.YtphpppjfogpohaaGreat
namespace Go.Proofs.YtphpppjfogpohaaGreat
open Go.RowKit
def cmpZ (a b:Int):Int:=if a < b then -1 else if b < a then 1 else 0
def orZ (p q:Int):Int:=if p=0 then q else p
def byZ (x y:Int×Int):Int:=orZ (cmpZ x.1 y.1) (cmpZ x.2 y.2)
theorem byZ_neg {x y:Int×Int}:byZ x y < 0↔leS y x=false:=by
 rw [Bool.eq_false_iff,ne_eq,leS_iff]
 unfold byZ orZ cmpZ
 (repeat' split) <;>omega
theorem isnan_any (a:Int) (w:World):Calls Tryz.prog 218 #[.int .i64 a] w fun e w'=>e= .returned (.bool false)∧Ext w w':=by
 go_enter Tryz.func218,Tryz.ntmps218
 go_wp2
 go_ret
 exact ⟨by simp,zF⟩
theorem compare_any (a b:Int) (W:World):Calls Tryz.prog 240 #[.int .i64 a,.int .i64 b] W fun e w'=>e= .returned (.int .i64 (cmpZ a b))∧Ext W w':=by
 have hs0:Ext W W:=Ext.refl W
 by_cases h1:a < b
 ·go_enter Tryz.func240,Tryz.ntmps240
  go_wp2_with (go_at_call 218;refine (isnan_any _ _).mono ?_;rintro e w1 ⟨rfl,hx0⟩;have hx:=Ext.trans (a:=W) (by with_reducible assumption) hx0;clear hx0)
  go_ret
  exact ⟨ret_int (by unfold cmpZ;rw [if_pos h1]),by assumption⟩
 ·by_cases h2:b < a
  ·go_enter Tryz.func240,Tryz.ntmps240
   go_wp2_with (go_at_call 218;refine (isnan_any _ _).mono ?_;rintro e w1 ⟨rfl,hx0⟩;have hx:=Ext.trans (a:=W) (by with_reducible assumption) hx0;clear hx0)
   go_ret
   exact ⟨ret_int (by unfold cmpZ;rw [if_neg (by omega),if_pos h2]),by assumption⟩
  ·go_enter Tryz.func240,Tryz.ntmps240
   go_wp2_with (go_at_call 218;refine (isnan_any _ _).mono ?_;rintro e w1 ⟨rfl,hx0⟩;have hx:=Ext.trans (a:=W) (by with_reducible assumption) hx0;clear hx0)
   go_ret
   exact ⟨ret_int (by unfold cmpZ;rw [if_neg (by omega),if_neg (by omega)]),by assumption⟩
theorem or_any (p q:Int) (b off c:Nat) (W:World) (h0:W.cell? ⟨b,off,none⟩=some (.int .i64 p)) (h1:W.cell? ⟨b,off+1,none⟩=some (.int .i64 q)):
  Calls Tryz.prog 239 #[.slice (some ⟨b,off,none⟩) 2 c] W fun e w'=>e= .returned (.int .i64 (orZ p q))∧Ext W w':=by
 by_cases hp:p=0
 ·subst hp
  by_cases hq:q=0
  ·subst hq
   go_enter Tryz.func239,Tryz.ntmps239
   go_wp2_with fail
   refine wp_loop_rounds 3 ?_
   rw [rounds_succ]
   go_wp2_with fail
   rw [rounds_succ]
   go_wp2_with fail
   rw [rounds_succ]
   go_wp2_with fail
   go_ret
   exact ⟨ret_int (by simp [orZ]),Ext.refl _⟩
  ·have hq1:(q !=0)=true:=by simpa using hq
   have HQ:=zH hq
   clear hq
   go_enter Tryz.func239,Tryz.ntmps239
   go_wp2_with fail
   refine wp_loop_rounds 2 ?_
   rw [rounds_succ]
   go_wp2_with fail
   rw [rounds_succ]
   go_wp2_with fail
   go_ret
   exact ⟨ret_int (by simp [orZ]),Ext.refl _⟩
 ·have hq1:(p !=0)=true:=by simpa using hp
  have HQ:=zH hp
  clear hp
  go_enter Tryz.func239,Tryz.ntmps239
  go_wp2_with fail
  refine wp_loop_rounds 1 ?_
  rw [rounds_succ]
  go_wp2_with fail
  go_ret
  exact ⟨ret_int (by unfold orZ;rw [if_neg HQ.out]),Ext.refl _⟩
theorem by_any (x y:Int×Int) (w:World):
  Calls Tryz.prog 237 #[.agg #[.int .i64 (x.1),.int .i64 (x.2)],.agg #[.int .i64 (y.1),.int .i64 (y.2)]] w fun e w'=>e= .returned (.int .i64 (byZ x y))∧Ext w w':=by
 obtain ⟨a,s⟩:=x
 obtain ⟨c,d⟩:=y
 show Calls Tryz.prog 237 #[.agg #[.int .i64 (a),.int .i64 (s)],.agg #[.int .i64 (c),.int .i64 (d)]] w fun e w'=>e= .returned (.int .i64 (orZ (cmpZ a c) (cmpZ s d)))∧Ext w w'
 go_enter Tryz.func237,Tryz.ntmps237
 go_wp2_with fail
 have hW:Ext w ((w.alloc (.cells #[.int .i64 a,.int .i64 s] 63)).alloc (.cells #[.int .i64 c,.int .i64 d] 63)):=((Ext.refl w).alloc _).alloc _
 have k0:=boxed w #[.int .i64 a,.int .i64 s] 63 0 _ rfl
 have k1:=boxed w #[.int .i64 a,.int .i64 s] 63 1 _ rfl
 have k2:=boxed (w.alloc (.cells #[.int .i64 a,.int .i64 s] 63)) #[.int .i64 c,.int .i64 d] 63 0 _ rfl
 have k3:=boxed (w.alloc (.cells #[.int .i64 a,.int .i64 s] 63)) #[.int .i64 c,.int .i64 d] 63 1 _ rfl
 replace k0:∀w',Ext ((w.alloc (.cells #[.int .i64 a,.int .i64 s] 63)).alloc (.cells #[.int .i64 c,.int .i64 d] 63)) w'→_:=fun w' h=>k0 w' (((Ext.refl _).alloc _).trans h)
 replace k1:∀w',Ext ((w.alloc (.cells #[.int .i64 a,.int .i64 s] 63)).alloc (.cells #[.int .i64 c,.int .i64 d] 63)) w'→_:=fun w' h=>k1 w' (((Ext.refl _).alloc _).trans h)
 simp only [World.size_alloc]at k2 k3
 generalize (w.alloc (.cells #[.int .i64 a,.int .i64 s] 63)).alloc (.cells #[.int .i64 c,.int .i64 d] 63)=W at*
 have hs0:Ext W W:=Ext.refl W
 go_region_held3 (fun w1=>Ext W w1) (first | (with_reducible assumption) | (exact Ext.drew (by with_reducible assumption)) | (with_reducible exact Ext.drew (Ext.alloc (by with_reducible assumption) _)) | (with_reducible exact Ext.alloc (by with_reducible assumption) _) | (exact Ext.trans (by with_reducible assumption) (by with_reducible assumption))) (first
  | (go_at_call 240;refine (compare_any _ _ _).mono ?_;rintro e w1 ⟨rfl,hx⟩)
  | (go_at_call 239;refine Calls.mono (or_any (cmpZ a c) (cmpZ s d) _ _ _ _ (by simp) (by simp)) ?_;rintro e w1 ⟨rfl,hx⟩))
 go_wp2
 go_ret
 exact ⟨rfl,hW.trans (by assumption)⟩
theorem flat_set:∀(xs:List (Int×Int)) (i:Nat) (a b:Int),((xs.flatMap spanC).set (i*2) (.int .i64 a)).set (i*2+1) (.int .i64 b)=(xs.set i (a,b)).flatMap spanC:=by
 intro xs
 induction xs with
 | nil=>intro i a b;simp
 | cons x t ih=>
  intro i a b
  cases i with
  | zero=>simp [spanC]
  | succ i=>
   have h:=ih i a b
   simp only [List.flatMap_cons,spanC,List.cons_append,List.nil_append,List.set_cons_succ,show (i+1)*2=i*2+1+1 by omega]
   rw [←h]
theorem OwnS.store {w:World} {B g N cap:Nat} {xs:List (Int×Int)} (h:OwnS w B (.slice (some ⟨g,0,none⟩) N cap) xs) (hN:xs.length=N) (i:Nat) (a b:Int):
  OwnS ((w.setCell ⟨g,i*2,none⟩ (.int .i64 a)).setCell ⟨g,i*2+1,none⟩ (.int .i64 b)) B (.slice (some ⟨g,0,none⟩) N cap) (xs.set i (a,b)):=by
 unfold OwnS Own at*
 rw [hN]at h
 have h1:=(World.ownsRow.stored (World.ownsRow.stored h (i*2) (.int .i64 a)).1 (i*2+1) (.int .i64 b)).1
 rw [flat_set]at h1
 rw [List.length_set,hN]
 exact h1
theorem OwnS.at {w:World} {B g N cap:Nat} {xs:List (Int×Int)} (h:OwnS w B (.slice (some ⟨g,0,none⟩) N cap) xs) (hN:xs.length=N) {i:Nat} (hi:i < N):
  w.cell? ⟨g,i*2,none⟩=some (.int .i64 (gt xs i).1)∧w.cell? ⟨g,i*2+1,none⟩=some (.int .i64 (gt xs i).2)∧w.frozen? ⟨g,i*2,none⟩=false∧w.frozen? ⟨g,i*2+1,none⟩=false:=by
 have h':=h
 unfold OwnS Own at h'
 rw [hN]at h'
 have hx:xs[i]?=some (gt xs i):=by rw [gt_eq (by omega)];simp [hN,hi]
 refine ⟨?_,?_,World.ownsRow.frozenAt h' _,World.ownsRow.frozenAt h' _⟩
 ·rw [World.ownsRow.cellAt h' _ (by omega)]
  have:=flat_get spanCells (by decide) (l:=xs) (i:=i) (j:=0) hx rfl
  simpa using this
 ·rw [World.ownsRow.cellAt h' _ (by omega)]
  exact flat_get spanCells (by decide) (l:=xs) (i:=i) (j:=1) hx rfl
def InPlace (w:World) (B g N cap:Nat) (S:List (Int×Int)→Prop) (e:Ending) (w':World):Prop:=
 e= .returned (.tuple #[])∧Below B w w'∧∃ys,ys.length=N∧S ys∧OwnS w' B (.slice (some ⟨g,0,none⟩) N cap) ys
def swapTo (xs:List (Int×Int)) (a b:Nat):Nat→List (Int×Int)
 | 0=>xs
 | n+1=>swapL (swapTo xs a b n) (a+n) (b+n)
theorem swapTo_length (xs:List (Int×Int)) (a b n:Nat):(swapTo xs a b n).length=xs.length:=by
 induction n with
 | zero=>rfl
 | succ n ih=>rw [swapTo,swapL_length,ih]
theorem swapRange_any (B g N cap a b n:Nat) (xs:List (Int×Int)) (w:World) (hBg:B≤g) (hN:xs.length=N) (hN2:N≤4000000000000) (hab:a+n≤b) (hb:b+n≤N)
  (ho:OwnS w B (.slice (some ⟨g,0,none⟩) N cap) xs):
  Calls Tryz.prog 244 #[.slice (some ⟨g,0,none⟩) N cap,.int .i64 a,.int .i64 b,.int .i64 n,.func (.func 237) #[] #[]] w
   (InPlace w B g N cap (fun ys=>ys=swapTo xs a b n)):=by
 have HO:=zH ho
 have HN:=zH hN
 clear ho hN
 go_enter Tryz.func244,Tryz.ntmps244
 go_wp2_with fail
 go_loopw [10] (fun i wr=>∃k:Nat,k≤n∧i= .int .i64 k∧Below B w wr∧OwnS wr B (.slice (some ⟨g,0,none⟩) N cap) (swapTo xs a b k)) (fun i _=>n - (intOf i).toNat)
 case atStart=>exact ⟨0,by omega,rfl,Below.refl _ _,HO.out⟩
 case round=>
  obtain ⟨k,hk,rfl,hbel,hown⟩:=hrel
  have HW:=zH hown
  have HBL:=zH hbel
  clear hown hbel HO
  by_cases hlt:k < n
  rotate_left
  ·obtain rfl:k=n:=by omega
   go_wp2_with fail
   go_end0
   exact ⟨rfl,HBL.out,_,by rw [swapTo_length];exact HN.out,rfl,HW.out⟩
  have hsl:(swapTo xs a b k).length=N:=by rw [swapTo_length];exact HN.out
  obtain ⟨p,hp⟩:∃p,p=a+k:=⟨_,rfl⟩
  obtain ⟨q,hq⟩:∃q,q=b+k:=⟨_,rfl⟩
  obtain ⟨p1,p2,p3,p4⟩:=HW.out.at hsl (show p < N by omega)
  obtain ⟨q1,q2,q3,q4⟩:=HW.out.at hsl (show q < N by omega)
  have HSL:=zH hsl
  have hpq:p < q:=by omega
  have i1:(a:Int)+(k:Int)=(p:Int):=by omega
  have i2:(b:Int)+(k:Int)=(q:Int):=by omega
  have i3:(p:Int) < (N:Int):=by omega
  have i4:(q:Int) < (N:Int):=by omega
  have i5:(0:Int)≤(p:Int):=by omega
  have i6:(0:Int)≤(q:Int):=by omega
  have i7:(N:Int)≤4000000000000:=by omega
  have i8:(k:Int) < (n:Int):=by omega
  have j1:IntKind.i64.wrap (p:Int)=(p:Int):=IntWalk.i64_in _ (by omega)
  have j2:IntKind.i64.wrap (q:Int)=(q:Int):=IntWalk.i64_in _ (by omega)
  have j3:¬p=q:=by omega
  have j4:¬q=p:=by omega
  have j5:¬p*2=q*2+1:=by omega
  have j6:¬q*2+1=p*2:=by omega
  have j7:¬p*2+1=q*2:=by omega
  have j8:¬q*2=p*2+1:=by omega
  have HPQ:=zH (And.intro hp hq)
  clear hsl hp hq
  generalize hgx:gt (swapTo xs a b k) p=x at*
  generalize hgy:gt (swapTo xs a b k) q=y at*
  have HX:=zH (And.intro hgx hgy)
  clear hgx hgy
  obtain ⟨x1,x2⟩:=x
  obtain ⟨y1,y2⟩:=y
  simp only at p1 p2 q1 q2
  go_wp2_with fail
  go_region
  go_wp2_with fail
  go_roundw
  case rel=>
   refine ⟨k+1,by omega,by go_num,((((HBL.out.drew).setCell hBg _).setCell hBg _).setCell hBg _).setCell hBg _,?_⟩
   have h1:=OwnS.store (w:=wr.drew) HW.out HSL.out p y1 y2
   have h2:=OwnS.store h1 (by simp [HSL.out]) q x1 x2
   rw [swapTo,←HPQ.out.1,←HPQ.out.2,swapL,HX.out.1,HX.out.2]
   exact h2
  case measure=>simp [intOf];omega
end Go.Proofs.YtphpppjfogpohaaGreat
namespace Go.Proofs.YtphpppjfogpohaaGreat
theorem gt_swapTo {xs:List (Int×Int)} {a b n:Nat} (hab:a+n≤b) (hb:b+n≤xs.length):∀p,gt (swapTo xs a b n) p=if a≤p∧p < a+n then gt xs (p - a+b)else if b≤p∧p < b+n then gt xs (p - b+a)else gt xs p:=by
 induction n with
 | zero=>intro p;rw [swapTo,if_neg (by omega),if_neg (by omega)]
 | succ n ih=>
  intro p
  have ih:=ih (by omega) (by omega)
  rw [swapTo,gt_swap (by rw [swapTo_length];omega) (by rw [swapTo_length];omega),ih,ih,ih]
  (repeat' split) <;>first | (exfalso;omega) | rfl | exact congrArg _ (by omega)
theorem swapTo_seg {xs:List (Int×Int)} {a b n l r:Nat} (hr:r≤xs.length) (hab:a+n≤b) (hl:l≤a) (hb:b+n≤r):Seg l r xs (swapTo xs a b n):=by
 induction n with
 | zero=>exact Seg.refl _ _ _
 | succ n ih=>exact (ih (by omega) (by omega)).trans (Seg.swap (by rw [swapTo_length];exact hr) ⟨by omega,by omega⟩ ⟨by omega,by omega⟩)
def Rot (a m b:Nat) (xs ys:List (Int×Int)):Prop:=∀p,gt ys p=if p < a∨b≤p then gt xs p else if p < a+(b - m)then gt xs (p+(m - a))else gt xs (p - (b - m))
theorem Rot.last {m i:Nat} {xs:List (Int×Int)} (hi:i≤m) (hm:m+i≤xs.length):Rot (m - i) m (m+i) xs (swapTo xs (m - i) m i):=by
 intro p
 rw [gt_swapTo (by omega) (by omega)]
 (repeat' split) <;>first | (exfalso;omega) | rfl | exact congrArg _ (by omega)
theorem Rot.left {m i j:Nat} {xs ys:List (Int×Int)} (hi:i≤m) (hij:j < i) (hm:m+j≤xs.length) (h:Rot (m - (i - j)) m (m+j) (swapTo xs (m - i) m j) ys):Rot (m - i) m (m+j) xs ys:=by
 intro p
 rw [h p]
 rw [gt_swapTo (by omega) (by omega),gt_swapTo (by omega) (by omega),gt_swapTo (by omega) (by omega)]
 (repeat' split) <;>first | (exfalso;omega) | rfl | exact congrArg _ (by omega)
theorem Rot.right {m i j:Nat} {xs ys:List (Int×Int)} (hi:i≤m) (hij:i < j) (hm:m+j≤xs.length) (h:Rot (m - i) m (m+(j - i)) (swapTo xs (m - i) (m+j - i) i) ys):Rot (m - i) m (m+j) xs ys:=by
 intro p
 rw [h p]
 rw [gt_swapTo (by omega) (by omega),gt_swapTo (by omega) (by omega),gt_swapTo (by omega) (by omega)]
 (repeat' split) <;>first | (exfalso;omega) | rfl | exact congrArg _ (by omega)
end Go.Proofs.YtphpppjfogpohaaGreat
