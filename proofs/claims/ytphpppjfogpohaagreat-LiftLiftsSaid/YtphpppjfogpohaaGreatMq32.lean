/- Merged by program (merge.py) out of: CanP, Ris. -/
import Derived.Test.YtphpppjfogpohaaGreatMq0
import Derived.Test.YtphpppjfogpohaaGreatMq31
import Derived.Test.YtphpppjfogpohaaGreatMq11
set_option linter.unusedSimpArgs false
set_option linter.unusedVariables false
set_option maxRecDepth 100000
set_option maxHeartbeats 16000000
namespace Go.Proofs.YtphpppjfogpohaaGreat
abbrev NodV:=Int×List (Int×Int)×List Int
def envP (ns:List NodV) (lim blk:Nat):PlE:=⟨ns.length,fun i=>1+(ns.getD i (0,[],[])).2.1.length+(ns.getD i (0,[],[])).2.2.length,fun i=>(ns.getD i (0,[],[])).2.1,lim,blk⟩
structure PgOk (ns:List NodV) (rs:List (Int×Int)):Prop where
 nodes:∀x∈ns,bF ns.length x.2.1
 roots:bF ns.length rs
def gC (ns:List NodV) (lim:Nat):Prop:=∀i,1+(ns.getD i (0,[],[])).2.1.length+(ns.getD i (0,[],[])).2.2.length≤lim
section
variable {ns ms : List NodV} {rs qs : List (Int × Int)} {lim blk : Nat}
theorem PgOk.env (h:PgOk ns rs):(envP ns lim blk).Ok:=by
 intro i hi v hv
 have:ns.getD i (0,[],[])∈ns:=by
  change i < ns.length at hi
  rw [aW hi];exact List.getElem_mem _
 exact h.nodes _ this v hv
structure SideP (R:Nat→Nat→Prop) (p q:PlD):Prop where
 len:p.small.length=q.small.length
 rel:∀k,k < p.small.length→R (p.small.getD k 0) (q.small.getD k 0)
 lk:p.lk=q.lk
 lp:p.large= []
 lq:q.large= []
 pp:p.pile= []
 pq:q.pile= []
 nd:p.lk.length=p.small.length
def ValsR (R:Nat→Nat→Prop) (l m:List (Int×Int)):Prop:=
 l.length=m.length∧∀k,k < l.length→(l.getD k (0,0)).1=(m.getD k (0,0)).1∧if (l.getD k (0,0)).1=2 then R (l.getD k (0,0)).2.toNat (m.getD k (0,0)).2.toNat else l.getD k (0,0)=m.getD k (0,0)
structure IsoP (R:Nat→Nat→Prop) (ns:List NodV) (rs:List (Int×Int)) (ms:List NodV) (qs:List (Int×Int)):Prop where
 f:∀i j k,R i j→R i k→j=k
 g:∀i j k,R i k→R j k→i=j
 roots:ValsR R rs qs
 nodes:∀i k,R i k→i < ns.length∧k < ms.length∧(ns.getD i (0,[],[])).1=(ms.getD k (0,[],[])).1∧ValsR R (ns.getD i (0,[],[])).2.1 (ms.getD k (0,[],[])).2.1∧(ns.getD i (0,[],[])).2.2=(ms.getD k (0,[],[])).2.2
theorem ValsR.cons {R:Nat→Nat→Prop} {v u:Int×Int} {l m:List (Int×Int)} (h:ValsR R (v::l) (u::m)):(v.1=u.1∧if v.1=2 then R v.2.toNat u.2.toNat else v=u)∧ValsR R l m:=by
 refine ⟨by simpa using h.2 0 sM,by simpa using h.1,fun k hk=> ?_⟩
 have:=h.2 (k+1) (by simpa using hk)
 simpa using this
theorem SideP.has {R:Nat→Nat→Prop} {p q:PlD} (h:SideP R p q) (hf:∀i j k,R i j→R i k→j=k) (hg:∀i j k,R i k→R j k→i=j) {i k:Nat} (hr:R i k):p.has i=q.has k:=by
 have e:∀(b c:Bool),(b=true↔c=true)→b=c:=by decide
 apply e
 rw [AV,AV,h.lp,h.lq,List.append_nil,List.append_nil]
 constructor
 ·intro hi
  obtain ⟨j,hj,rfl⟩:=List.getElem_of_mem hi
  have h1:=h.rel j hj
  rw [aW hj]at h1
  have h2:=hf _ _ _ h1 hr
  rw [←h2,aW (by rw [←h.len];exact hj)]
  exact List.getElem_mem _
 ·intro hi
  obtain ⟨j,hj,rfl⟩:=List.getElem_of_mem hi
  have hj':j < p.small.length:=by rw [h.len];exact hj
  have h1:=h.rel j hj'
  rw [aW hj]at h1
  have h2:=hg _ _ _ h1 hr
  rw [←h2,aW hj']
  exact List.getElem_mem _
theorem SideP.meet {R:Nat→Nat→Prop} {p q:PlD} {E F:PlE} (h:SideP R p q) (hf:∀i j k,R i j→R i k→j=k) (hg:∀i j k,R i k→R j k→i=j) (hE:∀i,E.sz i≤E.lim) (hF:∀i,F.sz i≤F.lim) {v u:Int×Int} (h1:v.1=u.1) (h2:if v.1=2 then R v.2.toNat u.2.toNat else v=u):
  SideP R (meetP E false p v) (meetP F false q u):=by
 have e:p.fresh v=q.fresh u:=by
  unfold PlD.fresh
  rw [←h1]
  by_cases h3:v.1=2
  ·rw [if_pos h3]at h2
   rw [h.has hf hg h2]
  ·simp [h3]
 unfold meetP
 rw [←e]
 by_cases h3:p.fresh v=true
 ·rw [if_pos h3,if_pos h3,if_neg (by have:=hE v.2.toNat;omega),if_neg (by have:=hF u.2.toNat;omega)]
  have h4:=(AQ.1 h3).1
  rw [if_pos h4]at h2
  refine ⟨by simp [PlD.addS,h.len],fun k hk=> ?_,by simp [PlD.addS,h.lk],h.lp,h.lq,h.pp,h.pq,by simp [PlD.addS,h.nd]⟩
  simp only [PlD.addS,List.length_append,List.length_singleton]at hk⊢
  by_cases hlt:k < p.small.length
  ·rw [dN hlt,dN (by rw [←h.len];exact hlt)]
   exact h.rel k hlt
  ·rw [eT oM,eT (by rw [←h.len];omega),←h.len]
   rw [show k - p.small.length=0 by omega]
   exact h2
 ·rw [if_neg h3,if_neg h3]
  exact h
theorem SideP.all {R:Nat→Nat→Prop} {E F:PlE} (hf:∀i j k,R i j→R i k→j=k) (hg:∀i j k,R i k→R j k→i=j) (hE:∀i,E.sz i≤E.lim) (hF:∀i,F.sz i≤F.lim):
  ∀(l m:List (Int×Int)) (p q:PlD),SideP R p q→ValsR R l m→SideP R (allP E false p l) (allP F false q m)
 | [],m,p,q,h,hl=>by
  have:m= []:=List.eq_nil_of_length_eq_zero (by simpa using hl.1.symm)
  subst this
  exact h
 | v::l,[],p,q,h,hl=>by simp [ValsR]at hl
 | v::l,u::m,p,q,h,hl=>by
  obtain ⟨⟨h1,h2⟩,h3⟩:=hl.cons
  exact SideP.all hf hg hE hF l m _ _ (h.meet hf hg hE hF h1 h2) h3
theorem SideP.next {R:Nat→Nat→Prop} {p q:PlD} {E F:PlE} (h:SideP R p q):cB E 0 p=cB F 0 q:=by
 unfold cB firstP
 simp only [h.len,h.lk,Bool.and_true,if_neg (show ¬(0:Nat)=2 by decide)]
theorem SideP.run {R:Nat→Nat→Prop} {lim2 blk2:Nat} (hI:IsoP R ns rs ms qs) (hE:gC ns lim) (hF:gC ms lim2):∀(f:Nat) (p q:PlD),SideP R p q→
  SideP R (runP (envP ns lim blk) 0 f p) (runP (envP ms lim2 blk2) 0 f q):=by
 intro f
 induction f with
 | zero=>exact fun _ _ h=>h
 | succ f ih=>
  intro p q h
  rw [runP,runP]
  have e:=h.next (E:=envP ns lim blk) (F:=envP ms lim2 blk2)
  unfold bp
  rw [←e]
  cases hn:cB (envP ns lim blk) 0 p with
  | none=>rw [h.pp,h.pq];exact h
  | some i=>
   obtain ⟨h1,_⟩:=gi hn
   have hr:=h.rel i h1
   obtain ⟨_,_,_,hv,_⟩:=hI.nodes _ _ hr
   refine ih _ _ ?_
   exact SideP.all (E:=envP ns lim blk) (F:=envP ms lim2 blk2) hI.f hI.g hE hF _ _ _ _ ⟨h.len,h.rel,by simp [PlD.looked,h.lk],h.lp,h.lq,h.pp,h.pq,by simp [PlD.looked,h.nd]⟩ hv
theorem l9 {E:PlE} {o:Nat}:∀(f:Nat) (p:PlD),bp E o (runP E o f p)=none→∀g,runP E o (f+g) p=runP E o f p
 | 0,p,h,g=>by
  rw [runP]at h
  rw [Nat.zero_add]
  cases g with
  | zero=>rfl
  | succ g=>rw [runP,runP,h]
 | f+1,p,h,g=>by
  rw [Nat.add_right_comm,runP,runP]
  rw [runP]at h
  cases hs:bp E o p with
  | none=>rfl
  | some q=>
   rw [hs]at h
   exact l9 f q h g
theorem qX {E:PlE} (hE:E.Ok) {roots:List (Int×Int)} (o:Nat) (hr:bF E.n roots):bp E o (planP E o roots)=none:=by
 obtain ⟨h1,h2⟩:=jB (o:=o) hE hr
 exact (tJ (o:=o) hE (E.n+1) _ h1 h2).2
theorem SideP.plan {R:Nat→Nat→Prop} {lim2 blk2:Nat} (hI:IsoP R ns rs ms qs) (hE:gC ns lim) (hF:gC ms lim2) (h1:PgOk ns rs) (h2:PgOk ms qs):SideP R (planP (envP ns lim blk) 0 rs) (planP (envP ms lim2 blk2) 0 qs):=by
 have e1:=l9 _ _ (qX (E:=envP ns lim blk) h1.env 0 h1.roots) ms.length
 have e2:=l9 _ _ (qX (E:=envP ms lim2 blk2) h2.env 0 h2.roots) ns.length
 have h0:SideP R (lookP (envP ns lim blk) 0 PlD.new rs) (lookP (envP ms lim2 blk2) 0 PlD.new qs):=
  SideP.all (E:=envP ns lim blk) (F:=envP ms lim2 blk2) hI.f hI.g hE hF _ _ _ _ ⟨rfl,fun k hk=>by simp [PlD.new]at hk,rfl,rfl,rfl,rfl,rfl,rfl⟩ hI.roots
 have h:=SideP.run (blk:=blk) (blk2:=blk2) hI hE hF (ns.length+1+ms.length) _ _ h0
 unfold planP at e1 e2⊢
 rw [←e1,←e2,show (envP ms lim2 blk2).n+1+ns.length=(envP ns lim blk).n+1+ms.length from by simp only [envP];omega]
 exact h
def bfsN (ns:List NodV) (rs:List (Int×Int)) (lim blk:Nat):List Nat:=(planP (envP ns lim blk) 0 rs).small
end
def ordZ (o:List Nat):List Int:=o.map fun (i:Nat)=>(i:Int)
def nI (ns:List NodV) (o:List Nat) (i:Nat):NodV:=((ns.getD i (0,[],[])).1,(ns.getD i (0,[],[])).2.1.map (bI (ordZ o)),(ns.getD i (0,[],[])).2.2)
def canN (ns:List NodV) (o:List Nat):List NodV:=o.map (nI ns o)
def canR (rs:List (Int×Int)) (o:List Nat):List (Int×Int):=rs.map (bI (ordZ o))
theorem aN {o:List Nat}:(ordZ o).length=o.length:=by simp [ordZ]
theorem dY {o:List Nat} {i:Nat} (h:i < o.length):(ordZ o).getD i 0=(o.getD i 0:Nat):=by simp [ordZ,h]
section
variable {R : Nat → Nat → Prop} {o p : List Nat} {ns ms : List NodV} {rs qs : List (Int × Int)}
theorem gE {α:Type} {l:List α} {i:Nat} {d:α} (h:i < l.length):l.getD i d∈l:=by rw [aW h];exact List.getElem_mem _
theorem qY {α β:Type} {l:List α} {f:α→β} {i:Nat} {d:α} {e:β} (h:i < l.length):(l.map f).getD i e=f (l.getD i d):=by simp [h]
theorem ld {α:Type} (d:α) {l m:List α} (h:l.length=m.length) (he:∀i,i < l.length→l.getD i d=m.getD i d):l=m:=by
 refine List.ext_getElem h fun i h1 h2=> ?_
 have:=he i h1
 rwa [aW h1,aW h2]at this
structure OrdOk (ns:List NodV) (rs:List (Int×Int)) (o:List Nat):Prop where
 nd:o.Nodup
 lt:∀i∈o,i < ns.length
 roots:∀v∈rs,v.1=2→0≤v.2∧v.2.toNat∈o
 nodes:∀i∈o,∀v∈(ns.getD i (0,[],[])).2.1,v.1=2→0≤v.2∧v.2.toNat∈o
theorem nJ {o:List Nat} (h:o.Nodup) {i j:Nat} (hi:i < o.length) (hj:j < o.length) (e:o.getD i 0=o.getD j 0):i=j:=by
 rw [aW hi,aW hj]at e
 exact (List.getElem_inj h).1 e
theorem jb {o:List Nat} (h:o.Nodup) {x:Int} (h0:0≤x) (hx:x.toNat∈o):∃j:Nat,j < o.length∧aj (ordZ o) x=j∧o.getD j 0=x.toNat:=by
 obtain ⟨j,hj,e⟩:=List.getElem_of_mem hx
 have e2:o.getD j 0=x.toNat:=by rw [aW hj];exact e
 refine ⟨j,hj,jW (by rw [aN];exact hj) (by rw [dY hj,e2];omega) (fun i hi he=> ?_),e2⟩
 rw [dY oM]at he
 have:=nJ h oM hj (show o.getD i 0=o.getD j 0 by omega)
 omega
theorem zV {lim blk:Nat} (h:PgOk ns rs) (hE:gC ns lim):OrdOk ns rs (bfsN ns rs lim blk)∧(planP (envP ns lim blk) 0 rs).large= []:=by
 obtain ⟨h1,h2⟩:=l8 (E:=envP ns lim blk) h.env 0 h.roots
 have hz:(planP (envP ns lim blk) 0 rs).large= []:=by
  have hrel:IsoP (fun i k=>i=k∧i < ns.length) ns rs ns rs:=by
   have hv:∀l:List (Int×Int),bF ns.length l→ValsR (fun i k=>i=k∧i < ns.length) l l:=fun l hl=>⟨rfl,fun k hk=>⟨rfl,by
    split
    ·rename_i e
     have:=hl _ (gE (d:=(0,0)) hk) e
     exact ⟨rfl,by omega⟩
    ·rfl⟩⟩
   exact ⟨fun i j k h1 h2=>h1.1.symm.trans h2.1,fun i j k h1 h2=>h1.1.trans h2.1.symm,hv _ h.roots,fun i k hik=>by
    obtain ⟨rfl,hlt⟩:=hik
    exact ⟨hlt,hlt,rfl,hv _ (h.nodes _ (gE hlt)),rfl⟩⟩
  exact (SideP.plan (blk:=blk) (blk2:=blk) hrel hE hE h h).lp
 have hm:∀i,i∈bfsN ns rs lim blk↔Rch (envP ns lim blk) rs i:=fun i=>by
  rw [←h2 i,PlD.Met,hz,List.append_nil]
  rfl
 refine ⟨⟨?_,?_,?_,?_⟩,hz⟩
 ·have:=h1.nd
  rw [hz,List.append_nil]at this
  exact this
 ·intro i hi
  exact h1.lt i (List.mem_append_left _ hi)
 ·intro v hv e
  exact ⟨(h.roots v hv e).1,(hm _).2 (.root ⟨v,hv,e,rfl⟩)⟩
 ·intro i hi v hv e
  have hlt:i < ns.length:=h1.lt i (List.mem_append_left _ hi)
  exact ⟨(h.nodes _ (gE hlt) v hv e).1,(hm _).2 (.step ((hm i).1 hi) ⟨v,hv,e,rfl⟩)⟩
end
structure MtD where
 to:List Int
 at_:List Int
 bad:Bool
section
variable {n m : Nat} {s t : MtD} {ns ms : List NodV} {rs qs : List (Int × Int)} {R : Nat → Nat → Prop}
theorem qZ {α:Type} {l:List α} {i j:Nat} {x d:α} (h:i < l.length):(l.set i x).getD j d=if i=j then x else l.getD j d:=by
 rw [List.getD_eq_getElem?_getD,List.getD_eq_getElem?_getD,List.getElem?_set]
 split <;>simp_all
end
def fG (l:List Int):List Int:=l.mergeSort fun x y=>decide (x≤y)
def cx (n:Nat) (S:List Int):List Nat:=(List.range n).filter fun i=>decide ((i:Int)∈S)
theorem sE (k:Nat) (S:List Int):cx (k+1) S=cx k S++(if decide ((k:Int)∈S)then [k]else []):=by
 unfold cx
 rw [List.range_succ,List.filter_append]
 congr 1
 simp only [List.filter_cons,List.filter_nil]
theorem uX (k:Nat) (S:List Int):(cx k S).length≤k:=by
 unfold cx
 have:=List.length_filter_le (fun i:Nat=>decide ((i:Int)∈S)) (List.range k)
 simpa using this
end Go.Proofs.YtphpppjfogpohaaGreat
