/- Merged by program (merge.py) out of: CanP, Ris. -/
import Derived.Test.YtphpppjfogpohaaGreatMy0
import Derived.Test.YtphpppjfogpohaaGreatMy31
import Derived.Test.YtphpppjfogpohaaGreatMy11
set_option linter.unusedSimpArgs false
set_option linter.unusedVariables false
set_option maxRecDepth 100000
set_option maxHeartbeats 16000000
namespace Go.Proofs.YtphpppjfogpohaaGreat
abbrev NodV:=Int×List (Int×Int)×List Int
def envP (ns:List NodV) (lim blk:Nat):PlE:=⟨ns.length,fun i=>1+(ns.getD i (0,[],[])).2.1.length+(ns.getD i (0,[],[])).2.2.length,fun i=>(ns.getD i (0,[],[])).2.1,lim,blk⟩
structure PgOk (ns:List NodV) (rs:List (Int×Int)):Prop where
 nodes:∀x∈ns,av ns.length x.2.1
 roots:av ns.length rs
def dX (ns:List NodV) (lim:Nat):Prop:=∀i,1+(ns.getD i (0,[],[])).2.1.length+(ns.getD i (0,[],[])).2.2.length≤lim
section
variable {ns ms : List NodV} {rs qs : List (Int × Int)} {lim blk : Nat}
theorem PgOk.env (h:PgOk ns rs):(envP ns lim blk).Ok:=by
 intro i hi v hv
 have:ns.getD i (0,[],[])∈ns:=by
  change i < ns.length at hi
  rw [aU hi];exact List.getElem_mem _
 exact h.nodes _ this v hv
structure SideP (R:Nat→Nat→Prop) (p q:PlD):Prop where
 len:p.small.length=q.small.length
 rel:∀k,k < p.small.length→R (p.small.getD k 0) (q.small.getD k 0)
 lk:p.lk=q.lk
 lp:p.large= []
 lq:q.large= []
 pp:p.pile= []
 pq:q.pile= []
 nd:p.lk.length=p.small.length
def ValsR (R:Nat→Nat→Prop) (l m:List (Int×Int)):Prop:=
 l.length=m.length∧∀k,k < l.length→(l.getD k (0,0)).1=(m.getD k (0,0)).1∧if (l.getD k (0,0)).1=2 then R (l.getD k (0,0)).2.toNat (m.getD k (0,0)).2.toNat else l.getD k (0,0)=m.getD k (0,0)
structure IsoP (R:Nat→Nat→Prop) (ns:List NodV) (rs:List (Int×Int)) (ms:List NodV) (qs:List (Int×Int)):Prop where
 f:∀i j k,R i j→R i k→j=k
 g:∀i j k,R i k→R j k→i=j
 roots:ValsR R rs qs
 nodes:∀i k,R i k→i < ns.length∧k < ms.length∧(ns.getD i (0,[],[])).1=(ms.getD k (0,[],[])).1∧ValsR R (ns.getD i (0,[],[])).2.1 (ms.getD k (0,[],[])).2.1∧(ns.getD i (0,[],[])).2.2=(ms.getD k (0,[],[])).2.2
theorem ValsR.cons {R:Nat→Nat→Prop} {v u:Int×Int} {l m:List (Int×Int)} (h:ValsR R (v::l) (u::m)):(v.1=u.1∧if v.1=2 then R v.2.toNat u.2.toNat else v=u)∧ValsR R l m:=by
 refine ⟨by simpa using h.2 0 sM,by simpa using h.1,fun k hk=> ?_⟩
 have:=h.2 (k+1) (by simpa using hk)
 simpa using this
theorem SideP.has {R:Nat→Nat→Prop} {p q:PlD} (h:SideP R p q) (hf:∀i j k,R i j→R i k→j=k) (hg:∀i j k,R i k→R j k→i=j) {i k:Nat} (hr:R i k):p.has i=q.has k:=by
 have e:∀(b c:Bool),(b=true↔c=true)→b=c:=by decide
 apply e
 rw [AJ,AJ,h.lp,h.lq,List.append_nil,List.append_nil]
 constructor
 ·intro hi
  obtain ⟨j,hj,rfl⟩:=List.getElem_of_mem hi
  have h1:=h.rel j hj
  rw [aU hj]at h1
  have h2:=hf _ _ _ h1 hr
  rw [←h2,aU (by rw [←h.len];exact hj)]
  exact List.getElem_mem _
 ·intro hi
  obtain ⟨j,hj,rfl⟩:=List.getElem_of_mem hi
  have hj':j < p.small.length:=by rw [h.len];exact hj
  have h1:=h.rel j hj'
  rw [aU hj]at h1
  have h2:=hg _ _ _ h1 hr
  rw [←h2,aU hj']
  exact List.getElem_mem _
theorem SideP.meet {R:Nat→Nat→Prop} {p q:PlD} {E F:PlE} (h:SideP R p q) (hf:∀i j k,R i j→R i k→j=k) (hg:∀i j k,R i k→R j k→i=j) (hE:∀i,E.sz i≤E.lim) (hF:∀i,F.sz i≤F.lim) {v u:Int×Int} (h1:v.1=u.1) (h2:if v.1=2 then R v.2.toNat u.2.toNat else v=u):
  SideP R (meetP E false p v) (meetP F false q u):=by
 have e:p.fresh v=q.fresh u:=by
  unfold PlD.fresh
  rw [←h1]
  by_cases h3:v.1=2
  ·rw [if_pos h3]at h2
   rw [h.has hf hg h2]
  ·simp [h3]
 unfold meetP
 rw [←e]
 by_cases h3:p.fresh v=true
 ·rw [if_pos h3,if_pos h3,if_neg (by have:=hE v.2.toNat;omega),if_neg (by have:=hF u.2.toNat;omega)]
  have h4:=(AH.1 h3).1
  rw [if_pos h4]at h2
  refine ⟨by simp [PlD.addS,h.len],fun k hk=> ?_,by simp [PlD.addS,h.lk],h.lp,h.lq,h.pp,h.pq,by simp [PlD.addS,h.nd]⟩
  simp only [PlD.addS,List.length_append,List.length_singleton]at hk⊢
  by_cases hlt:k < p.small.length
  ·rw [dN hlt,dN (by rw [←h.len];exact hlt)]
   exact h.rel k hlt
  ·rw [eS oM,eS (by rw [←h.len];omega),←h.len]
   rw [show k - p.small.length=0 by omega]
   exact h2
 ·rw [if_neg h3,if_neg h3]
  exact h
theorem SideP.all {R:Nat→Nat→Prop} {E F:PlE} (hf:∀i j k,R i j→R i k→j=k) (hg:∀i j k,R i k→R j k→i=j) (hE:∀i,E.sz i≤E.lim) (hF:∀i,F.sz i≤F.lim):
  ∀(l m:List (Int×Int)) (p q:PlD),SideP R p q→ValsR R l m→SideP R (allP E false p l) (allP F false q m)
 | [],m,p,q,h,hl=>by
  have:m= []:=List.eq_nil_of_length_eq_zero (by simpa using hl.1.symm)
  subst this
  exact h
 | v::l,[],p,q,h,hl=>by simp [ValsR]at hl
 | v::l,u::m,p,q,h,hl=>by
  obtain ⟨⟨h1,h2⟩,h3⟩:=hl.cons
  exact SideP.all hf hg hE hF l m _ _ (h.meet hf hg hE hF h1 h2) h3
theorem SideP.next {R:Nat→Nat→Prop} {p q:PlD} {E F:PlE} (h:SideP R p q):cl E 0 p=cl F 0 q:=by
 unfold cl cI
 simp only [h.len,h.lk,Bool.and_true,if_neg (show ¬(0:Nat)=2 by decide)]
theorem SideP.run {R:Nat→Nat→Prop} {lim2 blk2:Nat} (hI:IsoP R ns rs ms qs) (hE:dX ns lim) (hF:dX ms lim2):∀(f:Nat) (p q:PlD),SideP R p q→
  SideP R (runP (envP ns lim blk) 0 f p) (runP (envP ms lim2 blk2) 0 f q):=by
 intro f
 induction f with
 | zero=>exact fun _ _ h=>h
 | succ f ih=>
  intro p q h
  rw [runP,runP]
  have e:=h.next (E:=envP ns lim blk) (F:=envP ms lim2 blk2)
  unfold cO
  rw [←e]
  cases hn:cl (envP ns lim blk) 0 p with
  | none=>rw [h.pp,h.pq];exact h
  | some i=>
   obtain ⟨h1,_⟩:=ig hn
   have hr:=h.rel i h1
   obtain ⟨_,_,_,hv,_⟩:=hI.nodes _ _ hr
   refine ih _ _ ?_
   exact SideP.all (E:=envP ns lim blk) (F:=envP ms lim2 blk2) hI.f hI.g hE hF _ _ _ _ ⟨h.len,h.rel,by simp [PlD.looked,h.lk],h.lp,h.lq,h.pp,h.pq,by simp [PlD.looked,h.nd]⟩ hv
theorem lY {E:PlE} {o:Nat}:∀(f:Nat) (p:PlD),cO E o (runP E o f p)=none→∀g,runP E o (f+g) p=runP E o f p
 | 0,p,h,g=>by
  rw [runP]at h
  rw [Nat.zero_add]
  cases g with
  | zero=>rfl
  | succ g=>rw [runP,runP,h]
 | f+1,p,h,g=>by
  rw [Nat.add_right_comm,runP,runP]
  rw [runP]at h
  cases hs:cO E o p with
  | none=>rfl
  | some q=>
   rw [hs]at h
   exact lY f q h g
theorem qZ {E:PlE} (hE:E.Ok) {roots:List (Int×Int)} (o:Nat) (hr:av E.n roots):cO E o (planP E o roots)=none:=by
 obtain ⟨h1,h2⟩:=kH (o:=o) hE hr
 exact (tB (o:=o) hE (E.n+1) _ h1 h2).2
theorem SideP.plan {R:Nat→Nat→Prop} {lim2 blk2:Nat} (hI:IsoP R ns rs ms qs) (hE:dX ns lim) (hF:dX ms lim2) (h1:PgOk ns rs) (h2:PgOk ms qs):SideP R (planP (envP ns lim blk) 0 rs) (planP (envP ms lim2 blk2) 0 qs):=by
 have e1:=lY _ _ (qZ (E:=envP ns lim blk) h1.env 0 h1.roots) ms.length
 have e2:=lY _ _ (qZ (E:=envP ms lim2 blk2) h2.env 0 h2.roots) ns.length
 have h0:SideP R (lookP (envP ns lim blk) 0 PlD.new rs) (lookP (envP ms lim2 blk2) 0 PlD.new qs):=
  SideP.all (E:=envP ns lim blk) (F:=envP ms lim2 blk2) hI.f hI.g hE hF _ _ _ _ ⟨rfl,fun k hk=>by simp [PlD.new]at hk,rfl,rfl,rfl,rfl,rfl,rfl⟩ hI.roots
 have h:=SideP.run (blk:=blk) (blk2:=blk2) hI hE hF (ns.length+1+ms.length) _ _ h0
 unfold planP at e1 e2⊢
 rw [←e1,←e2,show (envP ms lim2 blk2).n+1+ns.length=(envP ns lim blk).n+1+ms.length from by simp only [envP];omega]
 exact h
def bfsN (ns:List NodV) (rs:List (Int×Int)) (lim blk:Nat):List Nat:=(planP (envP ns lim blk) 0 rs).small
end
def ordZ (o:List Nat):List Int:=o.map fun (i:Nat)=>(i:Int)
def jg (ns:List NodV) (o:List Nat) (i:Nat):NodV:=((ns.getD i (0,[],[])).1,(ns.getD i (0,[],[])).2.1.map (aj (ordZ o)),(ns.getD i (0,[],[])).2.2)
def canN (ns:List NodV) (o:List Nat):List NodV:=o.map (jg ns o)
def canR (rs:List (Int×Int)) (o:List Nat):List (Int×Int):=rs.map (aj (ordZ o))
theorem aW {o:List Nat}:(ordZ o).length=o.length:=by simp [ordZ]
theorem eE {o:List Nat} {i:Nat} (h:i < o.length):(ordZ o).getD i 0=(o.getD i 0:Nat):=by simp [ordZ,h]
structure PairP (R:Nat→Nat→Prop) (o p:List Nat):Prop where
 len:o.length=p.length
 rel:∀k,k < o.length→R (o.getD k 0) (p.getD k 0)
section
variable {R : Nat → Nat → Prop} {o p : List Nat} {ns ms : List NodV} {rs qs : List (Int × Int)}
theorem PairP.place (h:PairP R o p) (hf:∀i j k,R i j→R i k→j=k) (hg:∀i j k,R i k→R j k→i=j) {i k:Nat} (hr:R i k):aY (ordZ o) i=aY (ordZ p) k:=by
 have e:∀j,j < o.length→((ordZ o).getD j 0=(i:Int)↔(ordZ p).getD j 0=(k:Int)):=fun j hj=>by
  have h1:=h.rel j hj
  rw [eE hj,eE (by rw [←h.len];exact hj)]
  constructor
  ·intro e
   have e':o.getD j 0=i:=by omega
   rw [e']at h1
   have:=hf _ _ _ h1 hr
   omega
  ·intro e
   have e':p.getD j 0=k:=by omega
   rw [e']at h1
   have:=hg _ _ _ h1 hr
   omega
 rcases dD (ordZ o) i with ⟨h1,h2⟩ | ⟨j,h1,h2,h3,h4⟩
 ·rw [h1,ku]
  intro j hj
  rw [aW,←h.len]at hj
  rw [Ne,←e j hj]
  refine h2 _ ?_
  rw [aU (by rw [aW];exact hj)]
  exact List.getElem_mem _
 ·rw [aW]at h1
  rw [h2,iJ (k:=j) (by rw [aW,←h.len];exact h1) ((e j h1).1 h3)]
  intro m hm
  rw [Ne,←e m oM]
  exact h4 m hm
theorem PairP.vals (h:PairP R o p) (hf:∀i j k,R i j→R i k→j=k) (hg:∀i j k,R i k→R j k→i=j):∀(l m:List (Int×Int)),ValsR R l m→(∀v∈l,v.1=2→0≤v.2)→(∀v∈m,v.1=2→0≤v.2)→l.map (aj (ordZ o))=m.map (aj (ordZ p))
 | [],[],_,_,_=>rfl
 | [],_::_,hv,_,_=>by simp [ValsR]at hv
 | _::_,[],hv,_,_=>by simp [ValsR]at hv
 | v::l,u::m,hv,h0,h1=>by
  obtain ⟨⟨e1,e2⟩,h3⟩:=hv.cons
  rw [List.map_cons,List.map_cons,PairP.vals h hf hg l m h3 (fun v hv=>h0 v (List.mem_cons_of_mem _ hv)) (fun v hv=>h1 v (List.mem_cons_of_mem _ hv))]
  congr 1
  unfold aj
  by_cases h2:v.1=2
  ·have g0:=h0 v (List.mem_cons_self ..) h2
   have g1:=h1 u (List.mem_cons_self ..) (by rw [←e1];exact h2)
   rw [if_pos h2]at e2
   rw [if_pos h2,if_pos (by rw [←e1];exact h2)]
   have:=h.place hf hg e2
   rw [Int.toNat_of_nonneg g0,Int.toNat_of_nonneg g1]at this
   rw [this]
  ·rw [if_neg h2]at e2
   rw [if_neg h2,if_neg (by rw [←e1];exact h2)]
   exact e2
theorem bF {α:Type} {l:List α} {i:Nat} {d:α} (h:i < l.length):l.getD i d∈l:=by rw [aU h];exact List.getElem_mem _
theorem eF {α β:Type} {l:List α} {f:α→β} {i:Nat} {d:α} {e:β} (h:i < l.length):(l.map f).getD i e=f (l.getD i d):=by simp [h]
theorem gz {α:Type} (d:α) {l m:List α} (h:l.length=m.length) (he:∀i,i < l.length→l.getD i d=m.getD i d):l=m:=by
 refine List.ext_getElem h fun i h1 h2=> ?_
 have:=he i h1
 rwa [aU h1,aU h2]at this
theorem PairP.canon (h:PairP R o p) (hI:IsoP R ns rs ms qs) (h1:PgOk ns rs) (h2:PgOk ms qs):canN ns o=canN ms p∧canR rs o=canR qs p:=by
 refine ⟨gz (0,[],[]) (by simp [canN,h.len]) fun i hi=> ?_,h.vals hI.f hI.g _ _ hI.roots (fun v hv e=>(h1.roots v hv e).1) (fun v hv e=>(h2.roots v hv e).1)⟩
 have hi':i < o.length:=by simpa [canN]using hi
 have hi2:i < p.length:=by rw [←h.len];exact hi'
 unfold canN
 rw [eF (d:=0) hi',eF (d:=0) hi2]
 obtain ⟨a,b,c,d,e⟩:=hI.nodes _ _ (h.rel i hi')
 unfold jg
 rw [c,e,h.vals hI.f hI.g _ _ d (fun v hv e=>(h1.nodes _ (bF a) v hv e).1) (fun v hv e=>(h2.nodes _ (bF b) v hv e).1)]
structure OrdOk (ns:List NodV) (rs:List (Int×Int)) (o:List Nat):Prop where
 nd:o.Nodup
 lt:∀i∈o,i < ns.length
 roots:∀v∈rs,v.1=2→0≤v.2∧v.2.toNat∈o
 nodes:∀i∈o,∀v∈(ns.getD i (0,[],[])).2.1,v.1=2→0≤v.2∧v.2.toNat∈o
def tC (o p:List Nat) (i k:Nat):Prop:=∃j,j < o.length∧o.getD j 0=i∧p.getD j 0=k
theorem gA {o:List Nat} (h:o.Nodup) {i j:Nat} (hi:i < o.length) (hj:j < o.length) (e:o.getD i 0=o.getD j 0):i=j:=by
 rw [aU hi,aU hj]at e
 exact (List.getElem_inj h).1 e
theorem ey {o:List Nat} (h:o.Nodup) {x:Int} (h0:0≤x) (hx:x.toNat∈o):∃j:Nat,j < o.length∧aY (ordZ o) x=j∧o.getD j 0=x.toNat:=by
 obtain ⟨j,hj,e⟩:=List.getElem_of_mem hx
 have e2:o.getD j 0=x.toNat:=by rw [aU hj];exact e
 refine ⟨j,hj,iJ (by rw [aW];exact hj) (by rw [eE hj,e2];omega) (fun i hi he=> ?_),e2⟩
 rw [eE oM]at he
 have:=gA h oM hj (show o.getD i 0=o.getD j 0 by omega)
 omega
theorem jh {o p:List Nat} (hn:o.Nodup) (hm:p.Nodup) (hl:o.length=p.length):∀(l m:List (Int×Int)),l.map (aj (ordZ o))=m.map (aj (ordZ p))→(∀v∈l,v.1=2→0≤v.2∧v.2.toNat∈o)→(∀v∈m,v.1=2→0≤v.2∧v.2.toNat∈p)→ValsR (tC o p) l m:=by
 intro l m he h0 h1
 have hlen:l.length=m.length:=by simpa using congrArg List.length he
 refine ⟨hlen,fun k hk=> ?_⟩
 have e:(l.map (aj (ordZ o))).getD k (0,0)=(m.map (aj (ordZ p))).getD k (0,0):=by rw [he]
 rw [eF (d:=(0,0)) hk,eF (d:=(0,0)) oM]at e
 have m1:=h0 _ (bF (d:=(0,0)) hk)
 have m2:=h1 _ (bF (d:=(0,0)) (show k < m.length by omega))
 generalize l.getD k (0,0)=v at*
 generalize m.getD k (0,0)=u at*
 unfold aj at e
 by_cases h2:v.1=2
 ·rw [if_pos h2]at e
  obtain ⟨a,b⟩:=m1 h2
  obtain ⟨j,hj,e1,e2⟩:=ey hn a b
  by_cases h3:u.1=2
  ·rw [if_pos h3]at e
   obtain ⟨a',b'⟩:=m2 h3
   obtain ⟨j',hj',e1',e2'⟩:=ey hm a' b'
   refine ⟨by rw [h2,h3],?_⟩
   rw [if_pos h2]
   have:(j:Int)=j':=by rw [←e1,←e1'];exact congrArg Prod.snd e
   have:j=j':=by omega
   subst this
   exact ⟨j,hj,e2,e2'⟩
  ·rw [if_neg h3]at e
   exact absurd (by rw [←e]) h3
 ·rw [if_neg h2]at e
  by_cases h3:u.1=2
  ·rw [if_pos h3]at e
   exact absurd (by rw [e]) h2
  ·rw [if_neg h3]at e
   subst e
   exact ⟨rfl,by rw [if_neg h2]⟩
theorem OrdOk.iso (h1:OrdOk ns rs o) (h2:OrdOk ms qs p) (e1:canN ns o=canN ms p) (e2:canR rs o=canR qs p):IsoP (tC o p) ns rs ms qs∧PairP (tC o p) o p:=by
 have hl:o.length=p.length:=by simpa [canN]using congrArg List.length e1
 refine ⟨⟨?_,?_,jh h1.nd h2.nd hl _ _ e2 h1.roots h2.roots,?_⟩,hl,fun k hk=>⟨k,hk,rfl,rfl⟩⟩
 ·rintro i j k ⟨a,ha,rfl,rfl⟩ ⟨b,hb,hab,rfl⟩
  rw [gA h1.nd hb ha hab]
 ·rintro i j k ⟨a,ha,rfl,rfl⟩ ⟨b,hb,rfl,hab⟩
  rw [gA h2.nd oM oM hab]
 ·rintro i k ⟨a,ha,rfl,rfl⟩
  have ha2:a < p.length:=by omega
  have e:(canN ns o).getD a (0,[],[])=(canN ms p).getD a (0,[],[]):=by rw [e1]
  unfold canN at e
  rw [eF (d:=0) ha,eF (d:=0) ha2]at e
  unfold jg at e
  injection e with c d
  injection d with d e
  exact ⟨h1.lt _ (bF ha),h2.lt _ (bF ha2),c,jh h1.nd h2.nd hl _ _ d (h1.nodes _ (bF ha)) (h2.nodes _ (bF ha2)),e⟩
theorem sE {lim blk:Nat} (h:PgOk ns rs) (hE:dX ns lim):OrdOk ns rs (bfsN ns rs lim blk)∧(planP (envP ns lim blk) 0 rs).large= []:=by
 obtain ⟨h1,h2⟩:=qY (E:=envP ns lim blk) h.env 0 h.roots
 have hz:(planP (envP ns lim blk) 0 rs).large= []:=by
  have hrel:IsoP (fun i k=>i=k∧i < ns.length) ns rs ns rs:=by
   have hv:∀l:List (Int×Int),av ns.length l→ValsR (fun i k=>i=k∧i < ns.length) l l:=fun l hl=>⟨rfl,fun k hk=>⟨rfl,by
    split
    ·rename_i e
     have:=hl _ (bF (d:=(0,0)) hk) e
     exact ⟨rfl,by omega⟩
    ·rfl⟩⟩
   exact ⟨fun i j k h1 h2=>h1.1.symm.trans h2.1,fun i j k h1 h2=>h1.1.trans h2.1.symm,hv _ h.roots,fun i k hik=>by
    obtain ⟨rfl,hlt⟩:=hik
    exact ⟨hlt,hlt,rfl,hv _ (h.nodes _ (bF hlt)),rfl⟩⟩
  exact (SideP.plan (blk:=blk) (blk2:=blk) hrel hE hE h h).lp
 have hm:∀i,i∈bfsN ns rs lim blk↔Rch (envP ns lim blk) rs i:=fun i=>by
  rw [←h2 i,PlD.Met,hz,List.append_nil]
  rfl
 refine ⟨⟨?_,?_,?_,?_⟩,hz⟩
 ·have:=h1.nd
  rw [hz,List.append_nil]at this
  exact this
 ·intro i hi
  exact h1.lt i (List.mem_append_left _ hi)
 ·intro v hv e
  exact ⟨(h.roots v hv e).1,(hm _).2 (.root ⟨v,hv,e,rfl⟩)⟩
 ·intro i hi v hv e
  have hlt:i < ns.length:=h1.lt i (List.mem_append_left _ hi)
  exact ⟨(h.nodes _ (bF hlt) v hv e).1,(hm _).2 (.step ((hm i).1 hi) ⟨v,hv,e,rfl⟩)⟩
theorem IsoP.canon {lim blk lim2 blk2:Nat} (hI:IsoP R ns rs ms qs) (hE:dX ns lim) (hF:dX ms lim2) (h1:PgOk ns rs) (h2:PgOk ms qs):
  PairP R (bfsN ns rs lim blk) (bfsN ms qs lim2 blk2)∧canN ns (bfsN ns rs lim blk)=canN ms (bfsN ms qs lim2 blk2)∧canR rs (bfsN ns rs lim blk)=canR qs (bfsN ms qs lim2 blk2):=by
 have h:=SideP.plan (blk:=blk) (blk2:=blk2) hI hE hF h1 h2
 have hp:PairP R (bfsN ns rs lim blk) (bfsN ms qs lim2 blk2):=⟨h.len,h.rel⟩
 exact ⟨hp,hp.canon hI h1 h2⟩
end
structure MtD where
 to:List Int
 at_:List Int
 bad:Bool
def MtD.no (s:MtD):MtD:=⟨s.to,s.at_,true⟩
def valM (pr:MtD→Nat→Nat→MtD) (s:MtD) (x:(Int×Int)×(Int×Int)):MtD:=
 if s.bad=true then s else if x.1.1≠x.2.1∨(x.1.1≠2∧x.1≠x.2)then s.no else if x.1.1=2 then pr s x.1.2.toNat x.2.2.toNat else s
def eG (pr:MtD→Nat→Nat→MtD) (s:MtD) (xs ys:List (Int×Int)):MtD:=(xs.zip ys).foldl (valM pr) (if xs.length=ys.length then s else s.no)
def af (ns ms:List NodV):Nat→MtD→Nat→Nat→MtD
 | 0,s,_,_=>s.no
 | f+1,s,i,k=>
  if s.to.getD i 0=k∧s.at_.getD k 0=i then s
  else if 0≤s.to.getD i 0∨0≤s.at_.getD k 0 then s.no
  else if (ns.getD i (0,[],[])).1≠(ms.getD k (0,[],[])).1∨(ns.getD i (0,[],[])).2.2≠(ms.getD k (0,[],[])).2.2 then MtD.no ⟨s.to.set i k,s.at_.set k i,s.bad⟩
  else eG (af ns ms f) ⟨s.to.set i k,s.at_.set k i,s.bad⟩ (ns.getD i (0,[],[])).2.1 (ms.getD k (0,[],[])).2.1
def cJ (ns:List NodV) (rs:List (Int×Int)) (ms:List NodV) (qs:List (Int×Int)):MtD:=
 eG (af ns ms (ns.length+1)) ⟨List.replicate ns.length (-1),List.replicate ms.length (-1),false⟩ rs qs
def MtD.left (s:MtD):Nat:=s.to.countP fun x=>decide (x < 0)
structure MtOk (n m:Nat) (s:MtD):Prop where
 lt:s.to.length=n
 la:s.at_.length=m
 to:∀i,i < n→s.to.getD i 0= -1∨∃k:Nat,k < m∧s.to.getD i 0=k∧s.at_.getD k 0=i
 at_:∀k,k < m→s.at_.getD k 0= -1∨∃i:Nat,i < n∧s.at_.getD k 0=i∧s.to.getD i 0=k
section
variable {n m : Nat} {s t : MtD} {ns ms : List NodV} {rs qs : List (Int × Int)} {R : Nat → Nat → Prop}
theorem MtOk.no (h:MtOk n m s):MtOk n m s.no:=⟨h.lt,h.la,h.to,h.at_⟩
theorem MtOk.new:MtOk n m ⟨List.replicate n (-1),List.replicate m (-1),false⟩:=
 ⟨by simp,by simp,fun i hi=> .inl (by simp [hi]),fun i hi=> .inl (by simp [hi])⟩
theorem cn {α:Type} {l:List α} {i j:Nat} {x d:α} (h:i < l.length):(l.set i x).getD j d=if i=j then x else l.getD j d:=by
 rw [List.getD_eq_getElem?_getD,List.getD_eq_getElem?_getD,List.getElem?_set]
 split <;>simp_all
theorem MtOk.pair (h:MtOk n m s) {i k:Nat} (hi:i < n) (hk:k < m) (h1:¬0≤s.to.getD i 0) (h2:¬0≤s.at_.getD k 0):MtOk n m ⟨s.to.set i k,s.at_.set k i,s.bad⟩:=by
 have hi':i < s.to.length:=by rw [h.lt];exact hi
 have hk':k < s.at_.length:=by rw [h.la];exact hk
 refine ⟨by simp [h.lt],by simp [h.la],fun j hj=> ?_,fun j hj=> ?_⟩
 ·simp only [cn hi']
  by_cases e:i=j
  ·subst e
   refine .inr ⟨k,hk,by simp,?_⟩
   rw [cn hk',if_pos rfl]
  ·rw [if_neg e]
   rcases h.to j hj with h3 | ⟨c,hc,h3,h4⟩
   ·exact .inl h3
   ·refine .inr ⟨c,hc,h3,?_⟩
    rw [cn hk',if_neg (fun e2=>by subst e2;omega)]
    exact h4
 ·simp only [cn hk']
  by_cases e:k=j
  ·subst e
   refine .inr ⟨i,hi,by simp,?_⟩
   rw [cn hi',if_pos rfl]
  ·rw [if_neg e]
   rcases h.at_ j hj with h3 | ⟨c,hc,h3,h4⟩
   ·exact .inl h3
   ·refine .inr ⟨c,hc,h3,?_⟩
    rw [cn hi',if_neg (fun e2=>by subst e2;omega)]
    exact h4
def MtD.Pr (s:MtD) (i k:Nat):Prop:=i < s.to.length∧s.to.getD i 0=k
structure MtStep (ns ms:List NodV) (s t:MtD):Prop where
 ok:MtOk ns.length ms.length t
 bad:t.bad=false→s.bad=false
 sub:∀i k,s.Pr i k→t.Pr i k
 new:t.bad=false→∀i k,t.Pr i k→s.Pr i k∨(i < ns.length∧k < ms.length∧(ns.getD i (0,[],[])).1=(ms.getD k (0,[],[])).1∧ValsR t.Pr (ns.getD i (0,[],[])).2.1 (ms.getD k (0,[],[])).2.1∧(ns.getD i (0,[],[])).2.2=(ms.getD k (0,[],[])).2.2)
theorem ValsR.mono {R S:Nat→Nat→Prop} {l m:List (Int×Int)} (h:ValsR R l m) (hs:∀i k,R i k→S i k):ValsR S l m:=
 ⟨h.1,fun k hk=>by
  obtain ⟨h1,h2⟩:=h.2 k hk
  refine ⟨h1,?_⟩
  split
  ·rename_i e;rw [if_pos e]at h2;exact hs _ _ h2
  ·rename_i e;rw [if_neg e]at h2;exact h2⟩
theorem MtStep.refl (h:MtOk ns.length ms.length s):MtStep ns ms s s:=⟨h,id,fun _ _ h=>h,fun _ i k h=> .inl h⟩
theorem MtStep.no (h:MtOk ns.length ms.length s):MtStep ns ms s s.no:=⟨h.no,fun h=>by simp [MtD.no]at h,fun _ _ h=>h,fun h=>by simp [MtD.no]at h⟩
theorem MtStep.trans {u:MtD} (h:MtStep ns ms s t) (k:MtStep ns ms t u):MtStep ns ms s u:=by
 refine ⟨k.ok,fun hb=>h.bad (k.bad hb),fun i j hij=>k.sub _ _ (h.sub _ _ hij),fun hb i j hij=> ?_⟩
 rcases k.new hb i j hij with h1 | h1
 ·rcases h.new (k.bad hb) i j h1 with h2 | ⟨a,b,c,d,e⟩
  ·exact .inl h2
  ·exact .inr ⟨a,b,c,d.mono k.sub,e⟩
 ·exact .inr h1
theorem ot {s t:MtD} (h:s.to.length=t.to.length) (hs:∀i k,s.Pr i k→t.Pr i k) (h2:MtOk n m s):t.left≤s.left:=by
 have key:∀(l m:List Int),l.length=m.length→(∀i,i < l.length→0≤l.getD i 0→0≤m.getD i 0)→m.countP (fun x=>decide (x < 0))≤l.countP (fun x=>decide (x < 0)):=by
  intro l
  induction l with
  | nil=>intro m h _;cases m with
   | nil=>simp
   | cons _ _=>simp at h
  | cons x l ih=>
   intro m h hh
   cases m with
   | nil=>simp at h
   | cons y m=>
    have h1:=ih m (by simpa using h) (fun i hi h0=>by simpa using hh (i+1) (by simpa using hi) (by simpa using h0))
    have h2:=hh 0 sM
    simp only [List.countP_cons]
    simp at h2
    split <;>split <;>simp_all <;>omega
 refine key _ _ h fun i hi h0=> ?_
 rcases h2.to i (by rw [←h2.lt];exact hi)with h3 | ⟨k,_,h3,_⟩
 ·omega
 ·have:=(hs i k ⟨hi,h3⟩).2
  omega
theorem jU (h:MtOk n m s) {i k:Nat} (hi:i < n) (h1:¬0≤s.to.getD i 0):MtD.left ⟨s.to.set i k,s.at_.set k i,s.bad⟩+1=s.left:=by
 have key:∀(l:List Int) (i:Nat),i < l.length→l.getD i 0 < 0→(l.set i (k:Int)).countP (fun x=>decide (x < 0))+1=l.countP (fun x=>decide (x < 0)):=by
  intro l
  induction l with
  | nil=>intro i hi;simp at hi
  | cons x l ih=>
   intro i hi h0
   cases i with
   | zero=>
    simp at h0
    simp only [List.set_cons_zero,List.countP_cons]
    rw [if_neg sM,if_pos (by simpa using h0)]
   | succ i=>
    have:=ih i (by simpa using hi) (by simpa using h0)
    simp only [List.set_cons_succ,List.countP_cons]
    omega
 exact key _ _ (by rw [h.lt];exact hi) oM
theorem ga {f:Nat} (hp:∀s i k,MtOk ns.length ms.length s→s.bad=false→i < ns.length→k < ms.length→s.left < f→MtStep ns ms s (af ns ms f s i k)∧((af ns ms f s i k).bad=false→(af ns ms f s i k).Pr i k)):
  ∀(xs ys:List (Int×Int)) (s:MtD),xs.length=ys.length→MtOk ns.length ms.length s→av ns.length xs→av ms.length ys→s.left < f→
   MtStep ns ms s ((xs.zip ys).foldl (valM (af ns ms f)) s)∧(((xs.zip ys).foldl (valM (af ns ms f)) s).bad=false→ValsR ((xs.zip ys).foldl (valM (af ns ms f)) s).Pr xs ys)
 | [],[],s,_,h,_,_,_=>⟨.refl h,fun _=>⟨rfl,fun k hk=>by simp at hk⟩⟩
 | [],_::_,_,hl,_,_,_,_=>by simp at hl
 | _::_,[],_,hl,_,_,_,_=>by simp at hl
 | x::xs,y::ys,s,hl,h,hx,hy,hf=>by
  rw [List.zip_cons_cons,List.foldl_cons]
  have hone:MtStep ns ms s (valM (af ns ms f) s (x,y))∧((valM (af ns ms f) s (x,y)).bad=false→x.1=y.1∧if x.1=2 then (valM (af ns ms f) s (x,y)).Pr x.2.toNat y.2.toNat else x=y):=by
   unfold valM
   by_cases hb:s.bad=true
   ·rw [if_pos hb]
    exact ⟨.refl h,fun h0=>by rw [hb]at h0;cases h0⟩
   ·rw [if_neg hb]
    have hb':s.bad=false:=by simpa using hb
    by_cases h1:x.1≠y.1∨(x.1≠2∧x≠y)
    ·rw [if_pos h1]
     exact ⟨.no h,fun h0=>by simp [MtD.no]at h0⟩
    ·rw [if_neg h1]
     have e1:x.1=y.1:=Classical.byContradiction fun hn=>h1 (.inl hn)
     by_cases h2:x.1=2
     ·rw [if_pos h2]
      have a:=hx x (List.mem_cons_self ..) h2
      have b:=hy y (List.mem_cons_self ..) (by rw [←e1];exact h2)
      obtain ⟨p1,p2⟩:=hp s x.2.toNat y.2.toNat h hb' oM oM hf
      exact ⟨p1,fun h0=>⟨e1,by rw [if_pos h2];exact p2 h0⟩⟩
     ·rw [if_neg h2]
      exact ⟨.refl h,fun _=>⟨e1,by rw [if_neg h2];exact Classical.byContradiction fun hn=>h1 (.inr ⟨h2,hn⟩)⟩⟩
  obtain ⟨g1,g2⟩:=hone
  have hlf:=ot (s:=s) (t:=valM (af ns ms f) s (x,y)) (by rw [h.lt,g1.ok.lt]) g1.sub h
  obtain ⟨k1,k2⟩:=ga hp xs ys (valM (af ns ms f) s (x,y)) (by simpa using hl) g1.ok (fun v hv=>hx v (List.mem_cons_of_mem _ hv)) (fun v hv=>hy v (List.mem_cons_of_mem _ hv)) oM
  refine ⟨g1.trans k1,fun hb=>⟨by simpa using hl,fun k hk=> ?_⟩⟩
  cases k with
  | zero=>
   obtain ⟨e1,e2⟩:=g2 (k1.bad hb)
   refine ⟨by simpa using e1,?_⟩
   simp only [List.getD_cons_zero]
   split
   ·rename_i e;rw [if_pos e]at e2;exact k1.sub _ _ e2
   ·rename_i e;rw [if_neg e]at e2;exact e2
  | succ k=>
   have:=(k2 hb).2 k (by simpa using hk)
   simpa using this
theorem ii (h1:∀x∈ns,av ns.length x.2.1) (h2:∀x∈ms,av ms.length x.2.1):∀(f:Nat) (s:MtD) (i k:Nat),MtOk ns.length ms.length s→s.bad=false→i < ns.length→k < ms.length→s.left < f→
  MtStep ns ms s (af ns ms f s i k)∧((af ns ms f s i k).bad=false→(af ns ms f s i k).Pr i k):=by
 intro f
 induction f with
 | zero=>exact fun s i k _ _ _ _ h=>by omega
 | succ f ih=>
  intro s i k h hb hi hk hf
  rw [af]
  by_cases c1:s.to.getD i 0=k∧s.at_.getD k 0=i
  ·rw [if_pos c1]
   exact ⟨.refl h,fun _=>⟨by rw [h.lt];exact hi,c1.1⟩⟩
  rw [if_neg c1]
  by_cases c2:0≤s.to.getD i 0∨0≤s.at_.getD k 0
  ·rw [if_pos c2]
   exact ⟨.no h,fun h0=>by simp [MtD.no]at h0⟩
  rw [if_neg c2]
  simp only [not_or]at c2
  have hpo:=h.pair hi hk c2.1 c2.2
  have hlf:=jU (k:=k) h hi c2.1
  have hi':i < s.to.length:=by rw [h.lt];exact hi
  have hsub:∀a b,s.Pr a b→MtD.Pr ⟨s.to.set i k,s.at_.set k i,s.bad⟩ a b:=by
   rintro a b ⟨ha,hab⟩
   refine ⟨by simpa using ha,?_⟩
   simp only [cn hi']
   rw [if_neg (fun e=>by subst e;omega)]
   exact hab
  by_cases c3:(ns.getD i (0,[],[])).1≠(ms.getD k (0,[],[])).1∨(ns.getD i (0,[],[])).2.2≠(ms.getD k (0,[],[])).2.2
  ·rw [if_pos c3]
   exact ⟨⟨hpo.no,fun h0=>by simp [MtD.no]at h0,hsub,fun h0=>by simp [MtD.no]at h0⟩,fun h0=>by simp [MtD.no]at h0⟩
  rw [if_neg c3]
  simp only [not_or,Classical.not_not]at c3
  have hv1:=h1 _ (bF (d:=(0,[],[])) hi)
  have hv2:=h2 _ (bF (d:=(0,[],[])) hk)
  unfold eG
  by_cases c4:(ns.getD i (0,[],[])).2.1.length=(ms.getD k (0,[],[])).2.1.length
  ·rw [if_pos c4]
   obtain ⟨g1,g2⟩:=ga (ns:=ns) (ms:=ms) (f:=f) ih _ _ ⟨s.to.set i k,s.at_.set k i,s.bad⟩ c4 hpo hv1 hv2 oM
   have hik:MtD.Pr ⟨s.to.set i k,s.at_.set k i,s.bad⟩ i k:=⟨by simpa using hi',by simp only [cn hi',if_pos]⟩
   refine ⟨⟨g1.ok,g1.bad,fun a b hab=>g1.sub _ _ (hsub _ _ hab),fun hb a b hab=> ?_⟩,fun hb=>g1.sub _ _ hik⟩
   rcases g1.new hb a b hab with h3 | h3
   ·obtain ⟨h4,h5⟩:=h3
    simp only [cn hi']at h5
    by_cases e:i=a
    ·subst e
     rw [if_pos rfl]at h5
     have:k=b:=by omega
     subst this
     exact .inr ⟨hi,hk,c3.1,g2 hb,c3.2⟩
    ·rw [if_neg e]at h5
     exact .inl ⟨by simpa using h4,h5⟩
   ·exact .inr h3
  ·rw [if_neg c4]
   have hstay:∀(l:List ((Int×Int)×(Int×Int))) (s:MtD),s.bad=true→l.foldl (valM (af ns ms f)) s=s:=by
    intro l
    induction l with
    | nil=>exact fun _ _=>rfl
    | cons x l ihl=>intro s hs;rw [List.foldl_cons,valM,if_pos hs];exact ihl s hs
   rw [hstay _ _ rfl]
   exact ⟨⟨hpo.no,fun h0=>by simp [MtD.no]at h0,hsub,fun h0=>by simp [MtD.no]at h0⟩,fun h0=>by simp [MtD.no]at h0⟩
theorem iN {pr:MtD→Nat→Nat→MtD}:∀(l:List ((Int×Int)×(Int×Int))) (s:MtD),s.bad=true→l.foldl (valM pr) s=s
 | [],_,_=>rfl
 | x::l,s,hs=>by rw [List.foldl_cons,valM,if_pos hs];exact iN l s hs
theorem uV (h1:PgOk ns rs) (h2:PgOk ms qs) (hb:(cJ ns rs ms qs).bad=false):IsoP (cJ ns rs ms qs).Pr ns rs ms qs:=by
 unfold cJ eG at hb⊢
 by_cases c:rs.length=qs.length
 ·rw [if_pos c]at hb⊢
  obtain ⟨g1,g2⟩:=ga (ns:=ns) (ms:=ms) (f:=ns.length+1) (ii h1.nodes h2.nodes _) rs qs _ c (MtOk.new (n:=ns.length) (m:=ms.length)) h1.roots h2.roots (by
   have:∀n:Nat,(List.replicate n (-1:Int)).countP (fun x=>decide (x < 0))=n:=fun n=>by simp [List.countP_replicate]
   simp only [MtD.left,this];omega)
  generalize List.foldl (valM (af ns ms (ns.length+1))) _ (rs.zip qs)=t at*
  have hv:=g2 hb
  refine ⟨?_,?_,hv,fun i k hik=> ?_⟩
  ·rintro i j k ⟨_,h3⟩ ⟨_,h4⟩;omega
  ·rintro i j k ⟨h3,h4⟩ ⟨h5,h6⟩
   have ok:=g1.ok
   rw [ok.lt]at h3 h5
   rcases ok.to i h3 with h7 | ⟨c,hc,h7,h8⟩
   ·omega
   ·rcases ok.to j h5 with h9 | ⟨d,hd,h9,h10⟩
    ·omega
    ·have:c=d:=by omega
     subst this
     omega
  ·rcases g1.new hb i k hik with h3 | h3
   ·obtain ⟨h3,h4⟩:=h3
    simp only [List.length_replicate]at h3
    simp [h3]at h4
   ·exact h3
 ·rw [if_neg c]at hb
  rw [iN _ _ rfl]at hb
  simp [MtD.no]at hb
theorem hP {f:Nat} (hp:∀(s:MtD) (i k:Nat),MtOk ns.length ms.length s→s.bad=false→(∀i k,s.Pr i k→R i k)→R i k→s.left < f→MtStep ns ms s (af ns ms f s i k)∧(af ns ms f s i k).bad=false∧∀i' k',(af ns ms f s i k).Pr i' k'→R i' k'):
  ∀(xs ys:List (Int×Int)) (s:MtD),ValsR R xs ys→MtOk ns.length ms.length s→s.bad=false→(∀i k,s.Pr i k→R i k)→s.left < f→
   MtOk ns.length ms.length ((xs.zip ys).foldl (valM (af ns ms f)) s)∧((xs.zip ys).foldl (valM (af ns ms f)) s).bad=false∧(∀i k,((xs.zip ys).foldl (valM (af ns ms f)) s).Pr i k→R i k)
 | [],[],s,_,h,hb,hr,_=>⟨h,hb,hr⟩
 | [],_::_,_,hl,_,_,_,_=>by simp [ValsR]at hl
 | _::_,[],_,hl,_,_,_,_=>by simp [ValsR]at hl
 | x::xs,y::ys,s,hl,h,hb,hr,hf=>by
  rw [List.zip_cons_cons,List.foldl_cons]
  obtain ⟨⟨e1,e2⟩,hl'⟩:=hl.cons
  have hone:MtStep ns ms s (valM (af ns ms f) s (x,y))∧(valM (af ns ms f) s (x,y)).bad=false∧∀i' k',(valM (af ns ms f) s (x,y)).Pr i' k'→R i' k':=by
   unfold valM
   rw [if_neg (by rw [hb];decide)]
   by_cases h2:x.1=2
   ·rw [if_pos h2]at e2
    rw [if_neg (by simp only [not_or];exact ⟨fun hn=>hn e1,fun hn=>hn.1 h2⟩),if_pos h2]
    exact hp s _ _ h hb hr e2 hf
   ·rw [if_neg h2]at e2
    rw [if_neg (by simp only [not_or];exact ⟨fun hn=>hn e1,fun hn=>hn.2 e2⟩),if_neg h2]
    exact ⟨.refl h,hb,hr⟩
  obtain ⟨g1,g2,g3⟩:=hone
  have hlf:=ot (s:=s) (t:=valM (af ns ms f) s (x,y)) (by rw [h.lt,g1.ok.lt]) g1.sub h
  exact hP hp xs ys _ hl' g1.ok g2 g3 oM
theorem q9 (hI:IsoP R ns rs ms qs) (h1:∀x∈ns,av ns.length x.2.1) (h2:∀x∈ms,av ms.length x.2.1):∀(f:Nat) (s:MtD) (i k:Nat),MtOk ns.length ms.length s→s.bad=false→(∀i k,s.Pr i k→R i k)→R i k→s.left < f→
  MtStep ns ms s (af ns ms f s i k)∧(af ns ms f s i k).bad=false∧∀i' k',(af ns ms f s i k).Pr i' k'→R i' k':=by
 intro f
 induction f with
 | zero=>exact fun s i k _ _ _ _ h=>by omega
 | succ f ih=>
  intro s i k h hb hr hik hf
  obtain ⟨hi,hk,c,d,e⟩:=hI.nodes i k hik
  refine ⟨(ii h1 h2 (f+1) s i k h hb hi hk hf).1,?_⟩
  rw [af]
  by_cases c1:s.to.getD i 0=k∧s.at_.getD k 0=i
  ·rw [if_pos c1];exact ⟨hb,hr⟩
  rw [if_neg c1]
  have c2:¬(0≤s.to.getD i 0∨0≤s.at_.getD k 0):=by
   intro hn
   rcases hn with hn | hn
   ·rcases h.to i hi with h3 | ⟨k',hk',h3,h4⟩
    ·omega
    ·have:=hI.f _ _ _ (hr i k' ⟨by rw [h.lt];exact hi,h3⟩) hik
     subst this
     exact c1 ⟨h3,h4⟩
   ·rcases h.at_ k hk with h3 | ⟨i',hi',h3,h4⟩
    ·omega
    ·have:=hI.g _ _ _ (hr i' k ⟨by rw [h.lt];exact hi',h4⟩) hik
     subst this
     exact c1 ⟨h4,h3⟩
  rw [if_neg c2,if_neg (by simp only [not_or,Classical.not_not];exact ⟨c,e⟩)]
  simp only [not_or]at c2
  have hpo:=h.pair hi hk c2.1 c2.2
  have hlf:=jU (k:=k) h hi c2.1
  have hi':i < s.to.length:=by rw [h.lt];exact hi
  unfold eG
  rw [if_pos d.1]
  refine (hP (f:=f) ih _ _ ⟨s.to.set i k,s.at_.set k i,s.bad⟩ d hpo hb ?_ oM).2
  rintro a b ⟨ha,hab⟩
  simp only [cn hi']at hab
  by_cases e:i=a
  ·subst e
   rw [if_pos rfl]at hab
   have:k=b:=by omega
   subst this
   exact hik
  ·rw [if_neg e]at hab
   exact hr a b ⟨by simpa using ha,hab⟩
theorem qa {n m:Nat}:MtD.left ⟨List.replicate n (-1),List.replicate m (-1),false⟩=n:=by simp [MtD.left,List.countP_replicate]
theorem ou (hI:IsoP R ns rs ms qs) (h1:PgOk ns rs) (h2:PgOk ms qs):MtOk ns.length ms.length (cJ ns rs ms qs)∧(cJ ns rs ms qs).bad=false∧∀i k,(cJ ns rs ms qs).Pr i k→R i k:=by
 unfold cJ eG
 rw [if_pos hI.roots.1]
 refine hP (q9 hI h1.nodes h2.nodes _) _ _ _ hI.roots MtOk.new rfl ?_ (by rw [qa];omega)
 rintro i k ⟨h3,h4⟩
 simp only [List.length_replicate]at h3
 simp [h3]at h4
def lZ (n:Nat) (o p:List Nat):List Int:=(List.range n).map fun (i:Nat)=>let j:=aY (ordZ o) i;if j < 0 then -1 else (p.getD j.toNat 0:Nat)
theorem uW {lim blk:Nat} (h1:PgOk ns rs) (h2:PgOk ms qs) (hE:dX ns lim) (hF:dX ms lim):
  ((cJ ns rs ms qs).bad=false↔canN ns (bfsN ns rs lim blk)=canN ms (bfsN ms qs lim blk)∧canR rs (bfsN ns rs lim blk)=canR qs (bfsN ms qs lim blk))∧
   ((cJ ns rs ms qs).bad=false→(cJ ns rs ms qs).to=lZ ns.length (bfsN ns rs lim blk) (bfsN ms qs lim blk)∧(bfsN ns rs lim blk).length=(bfsN ms qs lim blk).length):=by
 have o1:=(sE (blk:=blk) h1 hE).1
 have o2:=(sE (blk:=blk) h2 hF).1
 have back:canN ns (bfsN ns rs lim blk)=canN ms (bfsN ms qs lim blk)∧canR rs (bfsN ns rs lim blk)=canR qs (bfsN ms qs lim blk)→MtOk ns.length ms.length (cJ ns rs ms qs)∧(cJ ns rs ms qs).bad=false∧∀i k,(cJ ns rs ms qs).Pr i k→tC (bfsN ns rs lim blk) (bfsN ms qs lim blk) i k:=
  fun h=>ou (o1.iso o2 h.1 h.2).1 h1 h2
 have forth:(cJ ns rs ms qs).bad=false→PairP (cJ ns rs ms qs).Pr (bfsN ns rs lim blk) (bfsN ms qs lim blk)∧canN ns (bfsN ns rs lim blk)=canN ms (bfsN ms qs lim blk)∧canR rs (bfsN ns rs lim blk)=canR qs (bfsN ms qs lim blk):=
  fun h=>(uV h1 h2 h).canon hE hF h1 h2
 refine ⟨⟨fun h=>(forth h).2,fun h=>(back h).2.1⟩,fun h=> ?_⟩
 obtain ⟨f1,f2⟩:=forth h
 obtain ⟨b1,_,b3⟩:=back f2
 refine ⟨?_,f1.len⟩
 refine gz 0 (by simp [lZ,b1.lt]) fun i hi=> ?_
 rw [b1.lt]at hi
 unfold lZ
 rw [eF (d:=0) (by simpa using hi)]
 have e:(List.range ns.length).getD i 0=i:=by simp [hi]
 rw [e]
 simp only
 rcases b1.to i hi with h3 | ⟨k,hk,h3,h4⟩
 ·rw [h3]
  by_cases hm:i∈bfsN ns rs lim blk
  ·obtain ⟨j,hj,e2⟩:=List.getElem_of_mem hm
   have h5:=f1.rel j hj
   rw [aU hj,e2]at h5
   have:=h5.2
   omega
  ·rw [ku,if_pos oM]
   intro j hj he
   rw [aW]at hj
   rw [eE hj]at he
   exact hm (by rw [show i=(bfsN ns rs lim blk).getD j 0 by omega];exact bF hj)
 ·obtain ⟨j,hj,e1,e2⟩:=b3 i k ⟨by rw [b1.lt];exact hi,h3⟩
  obtain ⟨j',hj',e3,e4⟩:=ey o1.nd (x:=(i:Int)) oM (by rw [Int.toNat_natCast,←e1];exact bF hj)
  rw [Int.toNat_natCast]at e4
  have:j'=j:=gA o1.nd hj' hj (by rw [e4,e1])
  subst this
  rw [h3,e3,if_neg oM,Int.toNat_natCast,e2]
end
def l8 (l:List Int):List Int:=l.mergeSort fun x y=>decide (x≤y)
end Go.Proofs.YtphpppjfogpohaaGreat
