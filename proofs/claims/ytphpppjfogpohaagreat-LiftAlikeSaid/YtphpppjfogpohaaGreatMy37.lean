/- Merged by program (merge.py) out of: RchD, RchE, RchF, RchG, RchU, CnP. -/
import Derived.Test.YtphpppjfogpohaaGreatMy0
import Derived.Handy
import Derived.Test.YtphpppjfogpohaaGreatMy36
import Derived.Test.YtphpppjfogpohaaGreatMy32
set_option linter.unusedSimpArgs false
set_option linter.unusedVariables false
set_option maxRecDepth 100000
set_option maxHeartbeats 16000000
namespace Go.Proofs.YtphpppjfogpohaaGreat
open Go.RowKit Go.Shelf
theorem nL {α β:Type} {f:α→β→α} {a:α} {l:List β} {k:Nat} {d:β} (hk:k < l.length):(l.take (k+1)).foldl f a=f ((l.take k).foldl f a) (l.getD k d):=by
 rw [List.take_add_one,List.getElem?_eq_getElem hk,Option.toList_some,List.foldl_append,aU hk]
 rfl
def ix (p:PlD) (P:Nat→Bool) (i:Nat):Bool:= !p.lk.getD i true && P (p.begins.getD i 0)
theorem sL {p:PlD} {P:Nat→Bool} {k:Nat} (hk:k < p.small.length) (h:ix p P k=true) (hq:∀i,i < k→ix p P i=false):cI p P=some k:=by
 unfold cI
 rw [List.find?_eq_some_iff_getElem]
 refine ⟨h,k,by simpa using hk,by simp,fun j hj=> ?_⟩
 have:=hq j hj
 unfold ix at this
 rw [List.getElem_range,this]
 rfl
theorem jk {p:PlD} {P:Nat→Bool} (hq:∀i,i < p.small.length→ix p P i=false):cI p P=none:=by
 unfold cI
 rw [List.find?_eq_none]
 intro x hx
 have:=hq x (List.mem_range.1 hx)
 unfold ix at this
 rw [this]
 decide
theorem iy {P:Nat→Prop} (h:∃n,P n):∃n,P n∧∀m,P m→n≤m:=by
 obtain ⟨n,hn⟩:=h
 induction n using Nat.strongRecOn with
 | _ n ih=>
  by_cases hl:∃m,m < n∧P m
  ·obtain ⟨m,hm,hp⟩:=hl
   exact ih m hm hp
  ·exact ⟨n,hn,fun m hm=>Nat.le_of_not_lt fun hlt=>hl ⟨m,hlt,hm⟩⟩
noncomputable def leastN (P:Nat→Prop):Nat:=open Classical in if h:∃n,P n then Classical.choose (iy h)else 0
theorem cY {P:Nat→Prop} (h:∃n,P n):P (leastN P)∧∀m,P m→leastN P≤m:=by
 unfold leastN
 rw [dif_pos h]
 exact Classical.choose_spec (iy h)
section
variable {V0 : World} {G : GraphD} {lim blk b : Nat} {V : World} {p : PlD} {o : Nat}
theorem TopOk.look (hG:RchG G lim blk) (h:TopOk p) {l:List (Int×Int)} (hl:av G.ns.length l):TopOk (lookP (envG G lim blk) o p l):=by
 unfold lookP
 split
 ·exact TopOk.deep hG _ _ _ h hl
 ·exact h.all hG hl
end
def argB (lim ord blk:Int):Bool:=decide (lim < 1) || decide (blk < 1) || decide (ord < 0) || decide (2 < ord)
def bi (G:GraphD) (lim ord blk:Int):Int:=if aR G then (if argB lim ord blk then 1 else 0)else 4
def planD (G:GraphD) (lim ord blk:Int):PlD:=planP (envG G lim.toNat blk.toNat) ord.toNat G.rs
def planS (G:GraphD) (lim ord blk:Int):List Int:=if bi G lim ord blk=0 then ordZ (planD G lim ord blk).small else []
def planL (G:GraphD) (lim ord blk:Int):List Int:=if bi G lim ord blk=0 then ordZ (planD G lim ord blk).large else []
def MidG (G:GraphD):Prop:=G.ns.length≤1000∧G.rs.length≤1000
theorem RchG.of {G:GraphD} {lim blk:Int} (oG:GraphOk G) (hl:MidG G) (hR:aR G=true) (h1:1≤lim∧lim≤9223372036854775807) (h2:1≤blk∧blk≤9223372036854775807):RchG G lim.toNat blk.toNat:=by
 obtain ⟨hl1,hl2⟩:=hl
 obtain ⟨r1,r2⟩:=fV hR
 refine ⟨oG,by omega,by omega,fun x hx=> ?_,⟨fun x hx=> ?_,fun v hv e=> ?_⟩,by omega,by omega⟩
 ·have:=(r1 x hx).1
  simp [okN]at this
  omega
 ·obtain ⟨y,hy,rfl⟩:=List.mem_map.1 hx
  intro v hv e
  have:=qf ((r1 y hy).2 v hv) e
  simpa using this
 ·have:=qf (r2 v hv) e
  simpa using this
def wZ (V:World) (S L:List Int) (c:Int) (e:Ending) (w':World):Prop:=
 ∃A1 c1 A2 c2,e= .returned (.tuple #[.slice A1 S.length c1,.slice A2 L.length c2,.int .i64 c])∧Own 3 1 intC w' V.heap.size (.slice A1 S.length c1) S∧Own 3 1 intC w' V.heap.size (.slice A2 L.length c2) L∧
  ((Value.slice A1 S.length c1).ownBlock=none∨(Value.slice A1 S.length c1).ownBlock≠(Value.slice A2 L.length c2).ownBlock)∧Ext V w'
def GOk (G:GraphD):Prop:=GraphOk G∧MidG G
theorem GOk.bd {G:GraphD} (h:GOk G):G.ns.length≤9223372036854775807∧G.rs.length≤9223372036854775807∧∀x∈G.ns,x.fields.length≤9223372036854775807:=by
 refine ⟨by have:=h.1.nl;omega,by have:=h.1.rl;omega,fun x hx=>by have:=(h.1.each x hx).fl;omega⟩
theorem eH (G:GraphD) (b:Bool) (hb:aR G=b) (V:World) (hG:GraphAt V G) (oG:GOk G):Calls Tryz.prog 47 #[.agg #[.slice G.nA G.ns.length G.ncap,.slice G.rA G.rs.length G.rcap]] V fun e w'=>e= .returned (.bool b)∧Ext V w':=by
 subst hb
 exact mV G V hG oG.bd.1 oG.bd.2.1 oG.bd.2.2
theorem tM {lim ord blk:Int} (h:argB lim ord blk=false):1≤lim∧1≤blk∧0≤ord∧ord≤2:=by
 simp [argB]at h
 omega
theorem we {lim ord blk:Int} (h:argB lim ord blk=true):lim < 1∨(1≤lim∧blk < 1)∨(1≤lim∧1≤blk∧ord < 0)∨(1≤lim∧1≤blk∧0≤ord∧2 < ord):=by
 simp [argB]at h
 omega
theorem ln {V w:World} {S L:List Int} {c:Int} (hS:S= []) (hL:L= []) (hx:Ext V w):wZ V S L c (.returned (.tuple #[.slice none 0 0,.slice none 0 0,.int .i64 c])) w:=by
 subst hS hL
 exact ⟨none,0,none,0,rfl,AA _ _ _ _ _,AA _ _ _ _ _,.inl rfl,hx⟩
def LimEq (E F:PlE):Prop:=F.n=E.n∧F.sz=E.sz∧F.fs=E.fs∧F.blk=E.blk∧∀i,(E.lim < E.sz i)↔(F.lim < E.sz i)
section
variable {E F : PlE}
theorem LimEq.meet (h:LimEq E F) (mk:Bool) (p:PlD) (v:Int×Int):meetP F mk p v=meetP E mk p v:=by
 obtain ⟨h1,h2,h3,h4,h5⟩:=h
 unfold meetP
 rw [h2]
 split
 ·by_cases hl:E.lim < E.sz v.2.toNat
  ·rw [if_pos hl,if_pos ((h5 _).1 hl)]
  ·rw [if_neg hl,if_neg fun c=>hl ((h5 _).2 c)]
 ·rfl
theorem LimEq.new (h:LimEq E F) (p:PlD) (v:Int×Int):newP F p v=newP E p v:=by
 obtain ⟨h1,h2,h3,h4,h5⟩:=h
 unfold newP
 rw [h2]
 congr 1
 have:=h5 v.2.toNat
 exact decide_eq_decide.2 oM
theorem LimEq.all (h:LimEq E F) (mk:Bool) (p:PlD) (l:List (Int×Int)):allP F mk p l=allP E mk p l:=by
 unfold allP
 rw [show meetP F mk=meetP E mk from funext fun q=>funext fun v=>h.meet mk q v]
theorem LimEq.deep (h:LimEq E F) (mk:Bool):∀(f:Nat) (p:PlD) (l:List (Int×Int)),deepP F mk f p l=deepP E mk f p l:=by
 intro f
 induction f with
 | zero=>intro p l;rfl
 | succ f ih=>
  intro p l
  rw [bn,bn]
  rw [show oneP F mk f=oneP E mk f from funext fun q=>funext fun v=>by
   unfold oneP
   rw [h.new,h.meet,h.2.2.1,ih]]
theorem LimEq.look (h:LimEq E F) (o:Nat) (p:PlD) (l:List (Int×Int)):lookP F o p l=lookP E o p l:=by
 unfold lookP
 rw [h.1,h.deep,h.all]
theorem LimEq.step (h:LimEq E F) (o:Nat) (p:PlD):cO F o p=cO E o p:=by
 unfold cO
 rw [show cl F o p=cl E o p from by unfold cl;rw [h.2.2.2.1]]
 simp only [h.look,h.2.2.1]
theorem LimEq.run (h:LimEq E F) (o:Nat):∀(f:Nat) (p:PlD),runP F o f p=runP E o f p:=by
 intro f
 induction f with
 | zero=>intro p;rfl
 | succ f ih=>
  intro p
  unfold runP
  rw [h.step]
  cases cO E o p with
  | none=>rfl
  | some q=>exact ih q
theorem LimEq.plan (h:LimEq E F) (o:Nat) (rs:List (Int×Int)):planP F o rs=planP E o rs:=by
 unfold planP
 rw [h.look,h.1,h.run]
theorem lr {mk:Bool} {p:PlD} {v:Int×Int} (hs:∀i,E.sz i≤E.lim) (h:p.large= []):(meetP E mk p v).large= []:=by
 unfold meetP
 split
 ·rw [if_neg (by have:=hs v.2.toNat;omega)]
  exact h
 ·exact h
theorem yI {mk:Bool} (hs:∀i,E.sz i≤E.lim) (p:PlD) (l:List (Int×Int)) (h:p.large= []):(allP E mk p l).large= []:=
 ev (I:=fun q:PlD=>q.large= []) l p (fun v _ q hq=>lr hs hq) h
theorem wh {mk:Bool} (hs:∀i,E.sz i≤E.lim):∀(f:Nat) (p:PlD) (l:List (Int×Int)),p.large= []→(deepP E mk f p l).large= []:=by
 intro f
 induction f with
 | zero=>exact fun p l h=>h
 | succ f ih=>
  intro p l h
  rw [bn]
  refine ev (I:=fun q:PlD=>q.large= []) l p (fun v _ q hq=> ?_) h
  unfold oneP
  split
  ·exact ih _ _ (lr hs hq)
  ·exact lr hs hq
theorem lu (hs:∀i,E.sz i≤E.lim) (o:Nat) (p:PlD) (l:List (Int×Int)) (h:p.large= []):(lookP E o p l).large= []:=by
 unfold lookP
 split
 ·exact wh hs _ _ _ h
 ·exact yI hs _ _ h
theorem wi (hs:∀i,E.sz i≤E.lim) (o:Nat) (p q:PlD) (h:p.large= []) (hq:cO E o p=some q):q.large= []:=by
 unfold cO at hq
 split at hq
 ·injection hq with hq
  rw [←hq]
  exact lu hs _ _ _ h
 ·split at hq
  ·cases hq
  ·injection hq with hq
   rw [←hq]
   exact lu hs _ _ _ h
theorem yJ (hs:∀i,E.sz i≤E.lim) (o:Nat):∀(f:Nat) (p:PlD),p.large= []→(runP E o f p).large= []:=by
 intro f
 induction f with
 | zero=>exact fun p h=>h
 | succ f ih=>
  intro p h
  unfold runP
  cases hst:cO E o p with
  | none=>exact h
  | some q=>exact ih q (wi hs o p q h hst)
theorem wj (hs:∀i,E.sz i≤E.lim) (o:Nat) (rs:List (Int×Int)):(planP E o rs).large= []:=
 yJ hs o _ _ (lu hs o _ _ rfl)
end
theorem qh {l:List Nat} {x:Int}:x∈ordZ l↔∃i,i∈l∧(i:Int)=x:=by simp [ordZ]
theorem lz {G:GraphD} {lim blk:Nat} (h:RchG G lim blk) (i:Nat):(envG G lim blk).sz i≤9000:=by
 by_cases hi:i < G.ns.length
 ·exact (h.sz i hi).1
 ·have : (G.ns.map aX).getD i (0, [], []) = (0, [], []) := by
   rw [List.getD_eq_getElem?_getD,List.getElem?_eq_none (by simp;omega)];rfl
  simp only [envG,envP,this]
  simp
theorem sN {G:GraphD} (oG:GOk G) (ord:Int):bi G 1048576 ord 1=bi G 1000000 ord 1∧planS G 1048576 ord 1=planS G 1000000 ord 1∧planL G 1048576 ord 1= []:=by
 have e1:bi G 1048576 ord 1=bi G 1000000 ord 1:=by unfold bi argB;rfl
 refine ⟨e1,?_⟩
 by_cases he:bi G 1000000 ord 1=0
 ·have he2:=e1.trans he
  unfold planS planL
  rw [if_pos he,if_pos he2,if_pos he2]
  unfold bi at he
  cases hR:aR G with
  | false=>rw [hR]at he;exact absurd he sM
  | true=>
   rw [hR,if_pos rfl]at he
   have hRG:=RchG.of oG.1 oG.2 hR (lim:=1048576) (blk:=1) ⟨by decide,by decide⟩ ⟨by decide,by decide⟩
   have hs:=lz hRG
   have hL:LimEq (envG G (1000000:Int).toNat (1:Int).toNat) (envG G (1048576:Int).toNat (1:Int).toNat):=⟨rfl,rfl,rfl,rfl,fun i=>by
    have:=hs i
    have e:(envG G (1000000:Int).toNat (1:Int).toNat).sz i=(envG G (1048576:Int).toNat (1:Int).toNat).sz i:=rfl
    rw [e]
    have e2:(envG G (1000000:Int).toNat (1:Int).toNat).lim=1000000:=rfl
    have e3:(envG G (1048576:Int).toNat (1:Int).toNat).lim=1048576:=rfl
    rw [e2,e3]
    omega⟩
   have e:planD G 1048576 ord 1=planD G 1000000 ord 1:=hL.plan ord.toNat G.rs
   have e4:(planD G 1048576 ord 1).large= []:=wj (fun i=>by
    have:=hs i
    have e3:(envG G (1048576:Int).toNat (1:Int).toNat).lim=1048576:=rfl
    rw [e3]
    omega) ord.toNat G.rs
   exact ⟨by rw [e],by rw [e4];rfl⟩
 ·have he2:=fun c=>he (e1.symm.trans c)
  unfold planS planL
  rw [if_neg he,if_neg he2,if_neg he2]
  exact ⟨rfl,rfl⟩
def valN (G:GraphD):List NodV:=G.ns.map aX
def ordG (G:GraphD):List Nat:=bfsN (valN G) G.rs 1000000 1
def canE (G:GraphD):Int:=if aR G then 0 else 4
def canV (G:GraphD):List NodV:=if aR G then canN (valN G) (ordG G)else []
def canQ (G:GraphD):List (Int×Int):=if aR G then canR G.rs (ordG G)else []
def tN (G:GraphD):List Int:=if aR G then ordZ (ordG G)else []
theorem yK (G:GraphD):bi G 1000000 0 1=canE G∧planS G 1000000 0 1=tN G:=by
 unfold planS bi canE tN
 cases hR:aR G with
 | false=>exact ⟨rfl,rfl⟩
 | true=>exact ⟨rfl,rfl⟩
theorem en {G:GraphD} (oG:GOk G) (hR:aR G=true):PgOk (valN G) G.rs:=(RchG.of oG.1 oG.2 hR (lim:=1000000) (blk:=1) ⟨by decide,by decide⟩ ⟨by decide,by decide⟩).pg
theorem mB {G:GraphD} (oG:GOk G) (hR:aR G=true):dX (valN G) 1000000:=fun i=>by
 have:=lz (RchG.of oG.1 oG.2 hR (lim:=1000000) (blk:=1) ⟨by decide,by decide⟩ ⟨by decide,by decide⟩) i
 change 1+((valN G).getD i (0,[],[])).2.1.length+((valN G).getD i (0,[],[])).2.2.length≤9000 at this
 omega
theorem gE {G:GraphD} (oG:GOk G) (hR:aR G=true):OrdOk (valN G) G.rs (ordG G):=(sE (en oG hR) (mB oG hR)).1
theorem wu {G:GraphD} (oG:GOk G) (hR:aR G=true):(ordG G).length≤G.ns.length:=by
 have h:=gE oG hR
 have:=fy G.ns.length (ordG G) h.nd (fun i hi=>by have:=h.lt i hi;simpa [valN]using this)
 exact this
theorem dY {G:GraphD} {i:Nat} (hi:i < G.ns.length):(valN G).getD i (0,[],[])=aX (G.ns.getD i default):=eF hi
theorem e8 {G:GraphD} {i:Nat} (h:i < (valN G).length):i < G.ns.length:=by simpa [valN]using h
theorem qi {G:GraphD} {o:List Nat} (hR:aR G=true) (h:OrdOk (valN G) G.rs o):renE G (ordZ o)=0:=by
 refine tF hR (tE fun i hi=> ?_) ?_
 ·rw [aW]at hi
  rw [eE hi]
  have h1:=e8 (h.lt _ (bF (d:=0) hi))
  refine ⟨by omega,by omega,?_⟩
  obtain ⟨j,hj,e1,e2⟩:=ey h.nd (x:=((o.getD i 0:Nat):Int)) oM (by rw [Int.toNat_natCast];exact bF (d:=0) hi)
  rw [Int.toNat_natCast]at e2
  rw [e1,gA h.nd hj hi e2]
 ·have hv : ∀ v : Int × Int, (v.1 = 2 → 0 ≤ v.2 ∧ v.2.toNat ∈ o) → ¬ dE (ordZ o) v = true := fun v hb => by
   unfold dE
   rw [decide_eq_true_eq]
   rintro ⟨e,hp⟩
   obtain ⟨b1,b2⟩:=hb e
   obtain ⟨j,hj,e1, -⟩:=ey h.nd b1 b2
   omega
  simp only [nJ,Bool.or_eq_false_iff,List.any_eq_false]
  refine ⟨fun j hj=> ?_,fun v hv'=>hv v (h.roots v hv')⟩
  rw [qh]at hj
  obtain ⟨i,hi,rfl⟩:=hj
  rw [Bool.not_eq_true,List.any_eq_false]
  intro v hv'
  have:=h.nodes i hi
  rw [dY (e8 (h.lt i hi))]at this
  exact hv v (this v (by rw [Int.toNat_natCast]at hv';exact hv'))
theorem qj {G:GraphD} {o:List Nat} (hR:aR G=true) (h:OrdOk (valN G) G.rs o):renN G (ordZ o)=canN (valN G) o∧renR G (ordZ o)=canR G.rs o:=by
 have he:=qi hR h
 unfold renN renR
 rw [if_pos he,if_pos he]
 refine ⟨?_,rfl⟩
 unfold canN ordZ
 rw [List.map_map]
 refine List.map_congr_left fun i hi=> ?_
 show tD (ordZ o) G.ns (i:Int)=jg (valN G) o i
 unfold tD jg
 rw [Int.toNat_natCast,dY (e8 (h.lt i hi))]
 rfl
def wgt (x:NodV):Nat:=min x.2.1.length 5000+min x.2.2.length 5000
theorem qk (ns:List NodeD):bulk ns=((ns.map aX).map wgt).sum:=by
 have:∀(l:List NodeD) (a:Int),l.foldl (fun (n:Int) x=>n+(min x.fields.length 5000+min x.raws.length 5000:Nat)) a=a+(((l.map aX).map wgt).sum:Nat):=by
  intro l
  induction l with
  | nil=>intro a;simp
  | cons x l ih=>
   intro a
   rw [List.foldl_cons,ih]
   simp only [List.map_cons,List.sum_cons]
   have:wgt (aX x)=min x.fields.length 5000+min x.raws.length 5000:=rfl
   rw [this]
   omega
 unfold bulk
 rw [this]
 omega
theorem yL {f:Nat→Nat}:∀(n:Nat) (o:List Nat),o.Nodup→(∀i∈o,i < n)→(o.map f).sum≤((List.range n).map f).sum:=by
 intro n
 induction n with
 | zero=>
  intro o _ h
  cases o with
  | nil=>simp
  | cons x o=>exact absurd (h x (List.mem_cons_self ..)) oM
 | succ n ih=>
  intro o hd h
  rw [List.range_succ,List.map_append,List.sum_append]
  by_cases hn:n∈o
  ·have h1 := ih (o.erase n) (hd.erase n) (fun i hi => by
    have h2:=h i (List.mem_of_mem_erase hi)
    have h3:i≠n:=fun e=>by subst e;exact hd.not_mem_erase hi
    omega)
   have h2:=((List.perm_cons_erase hn).map f).sum_nat
   simp only [List.map_cons,List.sum_cons]at h2
   simp
   omega
  ·have h1 := ih o hd (fun i hi => by
    have h2:=h i hi
    have h3:i≠n:=fun e=>by subst e;exact hn hi
    omega)
   simp
   omega
structure Shp (H:GraphD):Prop where
 each:∀x∈H.ns,(x.fA=none→x.fcap=0)∧(x.rA=none→x.rcap=0)∧x.fields.length≤x.fcap∧x.raws.length≤x.rcap
 a:H.nA=none→H.ncap=0
 b:H.rA=none→H.rcap=0
 c:H.ns.length≤H.ncap
 d:H.rs.length≤H.rcap
theorem nM {o:List Nat} {v:Int×Int} (hol:o.length≤1000) (hv:(-9223372036854775808≤v.1∧v.1≤9223372036854775807)∧(-9223372036854775808≤v.2∧v.2≤9223372036854775807)):
  (-9223372036854775808≤(aj (ordZ o) v).1∧(aj (ordZ o) v).1≤9223372036854775807)∧(-9223372036854775808≤(aj (ordZ o) v).2∧(aj (ordZ o) v).2≤9223372036854775807):=by
 unfold aj
 split
 ·have:=po (ordZ o) v.2
  rw [aW]at this
  simp only
  omega
 ·exact hv
theorem uh {G H:GraphD} {o:List Nat} (oG:GOk G) (hR:aR G=true) (h:OrdOk (valN G) G.rs o) (h1:valN H=canN (valN G) o) (h2:H.rs=canR G.rs o) (hs:Shp H):GOk H∧aR H=true:=by
 have hol:o.length≤G.ns.length:=fy G.ns.length o h.nd (fun i hi=>e8 (h.lt i hi))
 have hl:H.ns.length=o.length:=by have:=congrArg List.length h1;simpa [valN,canN]using this
 have hrl:H.rs.length=G.rs.length:=by rw [h2];simp [canR]
 obtain ⟨hLg1,hLg2⟩:=oG.2
 have hlg:G.ns.length≤1000:=by omega
 obtain ⟨r1,r2⟩:=fV hR
 have hev:∀y∈H.ns,∃i∈o,y.kind=(G.ns.getD i default).kind∧y.fields=(G.ns.getD i default).fields.map (aj (ordZ o))∧y.raws=(G.ns.getD i default).raws:=fun y hy=>by
  have:aX y∈canN (valN G) o:=by rw [←h1];exact List.mem_map.2 ⟨y,hy,rfl⟩
  obtain ⟨i,hi,e⟩:=List.mem_map.1 this
  refine ⟨i,hi,?_⟩
  unfold jg at e
  rw [dY (e8 (h.lt i hi))]at e
  simp only [aX,Prod.mk.injEq]at e
  exact ⟨e.1.symm,e.2.1.symm,e.2.2.symm⟩
 have hokv:∀v:Int×Int,okV G.ns.length v=true→(v.1=2→0≤v.2∧v.2.toNat∈o)→okV H.ns.length (aj (ordZ o) v)=true:=fun v ok hb=>by
  unfold aj
  by_cases e:v.1=2
  ·obtain ⟨b1,b2⟩:=hb e
   obtain ⟨j,hj,e1, -⟩:=ey h.nd b1 b2
   rw [if_pos e,e1,kC (by simp [cv];omega)]
   simp
   omega
  ·rw [if_neg e]
   have:cv v.1 v.2=true:=by simp [okV]at ok;exact ok.1
   obtain ⟨a,b⟩:=v
   exact jz this e
 refine ⟨⟨⟨by omega,by have:=oG.1.rl;omega,hs.a,hs.b,hs.c,hs.d,fun y hy=> ?_,fun v hv=> ?_⟩,?_⟩,?_⟩
 ·obtain ⟨i,hi,e1,e2,e3⟩:=hev y hy
  have ox:=oG.1.each _ (aH (d:=default) (e8 (h.lt i hi)))
  obtain ⟨a,b,c,d⟩:=hs.each y hy
  refine ⟨by rw [e1];exact ox.kind,by rw [e2,List.length_map];exact ox.fl,by rw [e3];exact ox.rl,a,b,c,d,fun v hv=> ?_,by rw [e3];exact ox.rv⟩
  rw [e2]at hv
  obtain ⟨u,hu,rfl⟩:=List.mem_map.1 hv
  exact nM oM (ox.fv u hu)
 ·rw [h2]at hv
  obtain ⟨u,hu,rfl⟩:=List.mem_map.1 hv
  exact nM oM (oG.1.rv u hu)
 ·have hb : bulk H.ns ≤ bulk G.ns := by
   rw [qk,qk]
   have e1:((H.ns.map aX).map wgt)=o.map fun i=>wgt ((valN G).getD i (0,[],[])):=by
    change (valN H).map wgt=_
    rw [h1]
    unfold canN
    rw [List.map_map]
    refine List.map_congr_left fun i hi=> ?_
    show wgt (jg (valN G) o i)=_
    simp [wgt,jg]
   have e2:((G.ns.map aX).map wgt)=(List.range G.ns.length).map fun i=>wgt ((valN G).getD i (0,[],[])):=by
    refine List.ext_getElem sM fun i h1 h2=> ?_
    have hi:i < G.ns.length:=by simpa using h1
    simp only [List.getElem_map,List.getElem_range]
    rw [dY hi,aU hi]
   rw [e1,e2]
   have:=yL (f:=fun i=>wgt ((valN G).getD i (0,[],[]))) G.ns.length o h.nd (fun i hi=>e8 (h.lt i hi))
   omega
  exact ⟨by omega,by omega⟩
 ·simp only [aR,Bool.and_eq_true,List.all_eq_true]
  refine ⟨fun y hy=> ?_,fun v hv=> ?_⟩
  ·obtain ⟨i,hi,e1,e2,e3⟩:=hev y hy
   have hlt:=e8 (h.lt i hi)
   obtain ⟨a,b⟩:=r1 _ (aH (d:=default) hlt)
   refine ⟨by simp only [okN,e1,e2,e3,List.length_map]at a⊢;exact a,fun v hv=> ?_⟩
   rw [e2]at hv
   obtain ⟨u,hu,rfl⟩:=List.mem_map.1 hv
   have hn:=h.nodes i hi
   rw [dY hlt]at hn
   exact hokv u (b u hu) (hn u hu)
  ·rw [h2]at hv
   obtain ⟨u,hu,rfl⟩:=List.mem_map.1 hv
   exact hokv u (r2 u hu) (h.roots u hu)
def bX (A B:GraphD):Bool:=aR A && aR B && (decide (canQ A=canQ B) && decide (canV A=canV B))
theorem ij {A B:GraphD}:bX A B=true↔aR A=true∧aR B=true∧canQ A=canQ B∧canV A=canV B:=by
 simp [bX,and_assoc]
theorem ql {A B:GraphD} (oA:GOk A) (oB:GOk B) (rA:aR A=true) (rB:aR B=true):
  ((cJ (valN A) A.rs (valN B) B.rs).bad= !bX A B)∧(bX A B=true→(cJ (valN A) A.rs (valN B) B.rs).to=lZ A.ns.length (ordG A) (ordG B)∧(ordG A).length=(ordG B).length):=by
 obtain ⟨h1,h2⟩:=uW (lim:=1000000) (blk:=1) (en oA rA) (en oB rB) (mB oA rA) (mB oB rB)
 have hiff:(cJ (valN A) A.rs (valN B) B.rs).bad=false↔bX A B=true:=by
  rw [h1,ij]
  unfold canV canQ
  rw [rA,rB,if_pos rfl,if_pos rfl,if_pos rfl,if_pos rfl]
  exact ⟨fun ⟨a,b⟩=>⟨rfl,rfl,b,a⟩,fun ⟨_,_,a,b⟩=>⟨b,a⟩⟩
 refine ⟨?_,fun h=> ?_⟩
 ·cases hb:(cJ (valN A) A.rs (valN B) B.rs).bad with
  | false=>rw [hiff.1 hb];rfl
  | true=>
   cases ha:bX A B with
   | false=>rfl
   | true=>rw [hiff.2 ha]at hb;cases hb
 ·have:=h2 (hiff.2 h)
  rw [show (valN A).length=A.ns.length by simp [valN]]at this
  exact this
end Go.Proofs.YtphpppjfogpohaaGreat
