/- Merged by program (merge.py) out of: RchD, RchE, RchF, RchG, RchU, CnP. -/
import Derived.Handy
import Derived.Test.YtphpppjfogpohaaGreatMv36
import Derived.Test.YtphpppjfogpohaaGreatMv32
set_option linter.unusedSimpArgs false
set_option linter.unusedVariables false
set_option maxRecDepth 100000
set_option maxHeartbeats 16000000
namespace Go.Proofs.YtphpppjfogpohaaGreat
open Go.RowKit Go.Shelf
def MidG (G:GraphD):Prop:=G.ns.length≤1000∧G.rs.length≤1000
theorem MidG.of {G:GraphD} (h:largeG G=false):MidG G:=by
 have hl2:¬(60 < G.ns.length∨100 < G.rs.length∨9000 < bulk G.ns):=by simpa [largeG]using h
 exact ⟨by omega,by omega⟩
def GOk (G:GraphD):Prop:=GraphOk G∧MidG G
theorem GOk.bd {G:GraphD} (h:GOk G):G.ns.length≤9223372036854775807∧G.rs.length≤9223372036854775807∧∀x∈G.ns,x.fields.length≤9223372036854775807:=by
 refine ⟨by have:=h.1.nl;omega,by have:=h.1.rl;omega,fun x hx=>by have:=(h.1.each x hx).fl;omega⟩
def valN (G:GraphD):List NodV:=G.ns.map nodeV
theorem valN_get {G:GraphD} {i:Nat} (hi:i < G.ns.length):(valN G).getD i (0,[],[])=nodeV (G.ns.getD i default):=map_getD hi
theorem valN_mem {G:GraphD} {i:Nat} (h:i < (valN G).length):i < G.ns.length:=by simpa [valN]using h
def wgt (x:NodV):Nat:=min x.2.1.length 5000+min x.2.2.length 5000
theorem bulk_sum (ns:List NodeD):bulk ns=((ns.map nodeV).map wgt).sum:=by
 have:∀(l:List NodeD) (a:Int),l.foldl (fun (n:Int) x=>n+(min x.fields.length 5000+min x.raws.length 5000:Nat)) a=a+(((l.map nodeV).map wgt).sum:Nat):=by
  intro l
  induction l with
  | nil=>intro a;simp
  | cons x l ih=>
   intro a
   rw [List.foldl_cons,ih]
   simp only [List.map_cons,List.sum_cons]
   have:wgt (nodeV x)=min x.fields.length 5000+min x.raws.length 5000:=rfl
   rw [this]
   omega
 unfold bulk
 rw [this]
 omega
theorem sum_sub {f:Nat→Nat}:∀(n:Nat) (o:List Nat),o.Nodup→(∀i∈o,i < n)→(o.map f).sum≤((List.range n).map f).sum:=by
 intro n
 induction n with
 | zero=>
  intro o _ h
  cases o with
  | nil=>simp
  | cons x o=>exact absurd (h x (List.mem_cons_self ..)) (by omega)
 | succ n ih=>
  intro o hd h
  rw [List.range_succ,List.map_append,List.sum_append]
  by_cases hn:n∈o
  ·have h1 := ih (o.erase n) (hd.erase n) (fun i hi => by
    have h2:=h i (List.mem_of_mem_erase hi)
    have h3:i≠n:=fun e=>by subst e;exact hd.not_mem_erase hi
    omega)
   have h2:=((List.perm_cons_erase hn).map f).sum_nat
   simp only [List.map_cons,List.sum_cons]at h2
   simp
   omega
  ·have h1 := ih o hd (fun i hi => by
    have h2:=h i hi
    have h3:i≠n:=fun e=>by subst e;exact hn hi
    omega)
   simp
   omega
structure Shp (H:GraphD):Prop where
 each:∀x∈H.ns,(x.fA=none→x.fcap=0)∧(x.rA=none→x.rcap=0)∧x.fields.length≤x.fcap∧x.raws.length≤x.rcap
 a:H.nA=none→H.ncap=0
 b:H.rA=none→H.rcap=0
 c:H.ns.length≤H.ncap
 d:H.rs.length≤H.rcap
theorem turned_bd {o:List Nat} {v:Int×Int} (hol:o.length≤1000) (hv:(-9223372036854775808≤v.1∧v.1≤9223372036854775807)∧(-9223372036854775808≤v.2∧v.2≤9223372036854775807)):
  (-9223372036854775808≤(turned (ordZ o) v).1∧(turned (ordZ o) v).1≤9223372036854775807)∧(-9223372036854775808≤(turned (ordZ o) v).2∧(turned (ordZ o) v).2≤9223372036854775807):=by
 unfold turned
 split
 ·have:=place_ge (ordZ o) v.2
  rw [ordZ_len]at this
  simp only
  omega
 ·exact hv
theorem turned_ok {G H:GraphD} {o:List Nat} (oG:GOk G) (hR:rightG G=true) (h:OrdOk (valN G) G.rs o) (h1:valN H=canN (valN G) o) (h2:H.rs=canR G.rs o) (hs:Shp H):GOk H∧rightG H=true:=by
 have hol:o.length≤G.ns.length:=nodup_le G.ns.length o h.nd (fun i hi=>valN_mem (h.lt i hi))
 have hl:H.ns.length=o.length:=by have:=congrArg List.length h1;simpa [valN,canN]using this
 have hrl:H.rs.length=G.rs.length:=by rw [h2];simp [canR]
 obtain ⟨hLg1,hLg2⟩:=oG.2
 have hlg:G.ns.length≤1000:=by omega
 obtain ⟨r1,r2⟩:=right_parts hR
 have hev:∀y∈H.ns,∃i∈o,y.kind=(G.ns.getD i default).kind∧y.fields=(G.ns.getD i default).fields.map (turned (ordZ o))∧y.raws=(G.ns.getD i default).raws:=fun y hy=>by
  have:nodeV y∈canN (valN G) o:=by rw [←h1];exact List.mem_map.2 ⟨y,hy,rfl⟩
  obtain ⟨i,hi,e⟩:=List.mem_map.1 this
  refine ⟨i,hi,?_⟩
  unfold turnV at e
  rw [valN_get (valN_mem (h.lt i hi))]at e
  simp only [nodeV,Prod.mk.injEq]at e
  exact ⟨e.1.symm,e.2.1.symm,e.2.2.symm⟩
 have hokv:∀v:Int×Int,okV G.ns.length v=true→(v.1=2→0≤v.2∧v.2.toNat∈o)→okV H.ns.length (turned (ordZ o) v)=true:=fun v ok hb=>by
  unfold turned
  by_cases e:v.1=2
  ·obtain ⟨b1,b2⟩:=hb e
   obtain ⟨j,hj,e1, -⟩:=ord_place h.nd b1 b2
   rw [if_pos e,e1,okV_ref (by simp [vmayB];omega)]
   simp
   omega
  ·rw [if_neg e]
   have:vmayB v.1 v.2=true:=by simp [okV]at ok;exact ok.1
   obtain ⟨a,b⟩:=v
   exact okV_val this e
 refine ⟨⟨⟨by omega,by have:=oG.1.rl;omega,hs.a,hs.b,hs.c,hs.d,fun y hy=> ?_,fun v hv=> ?_⟩,?_⟩,?_⟩
 ·obtain ⟨i,hi,e1,e2,e3⟩:=hev y hy
  have ox:=oG.1.each _ (getD_mem (d:=default) (valN_mem (h.lt i hi)))
  obtain ⟨a,b,c,d⟩:=hs.each y hy
  refine ⟨by rw [e1];exact ox.kind,by rw [e2,List.length_map];exact ox.fl,by rw [e3];exact ox.rl,a,b,c,d,fun v hv=> ?_,by rw [e3];exact ox.rv⟩
  rw [e2]at hv
  obtain ⟨u,hu,rfl⟩:=List.mem_map.1 hv
  exact turned_bd (by omega) (ox.fv u hu)
 ·rw [h2]at hv
  obtain ⟨u,hu,rfl⟩:=List.mem_map.1 hv
  exact turned_bd (by omega) (oG.1.rv u hu)
 ·have hb : bulk H.ns ≤ bulk G.ns := by
   rw [bulk_sum,bulk_sum]
   have e1:((H.ns.map nodeV).map wgt)=o.map fun i=>wgt ((valN G).getD i (0,[],[])):=by
    change (valN H).map wgt=_
    rw [h1]
    unfold canN
    rw [List.map_map]
    refine List.map_congr_left fun i hi=> ?_
    show wgt (turnV (valN G) o i)=_
    simp [wgt,turnV]
   have e2:((G.ns.map nodeV).map wgt)=(List.range G.ns.length).map fun i=>wgt ((valN G).getD i (0,[],[])):=by
    refine List.ext_getElem (by simp) fun i h1 h2=> ?_
    have hi:i < G.ns.length:=by simpa using h1
    simp only [List.getElem_map,List.getElem_range]
    rw [valN_get hi,getD_get hi]
   rw [e1,e2]
   have:=sum_sub (f:=fun i=>wgt ((valN G).getD i (0,[],[]))) G.ns.length o h.nd (fun i hi=>valN_mem (h.lt i hi))
   omega
  exact ⟨by omega,by omega⟩
 ·simp only [rightG,Bool.and_eq_true,List.all_eq_true]
  refine ⟨fun y hy=> ?_,fun v hv=> ?_⟩
  ·obtain ⟨i,hi,e1,e2,e3⟩:=hev y hy
   have hlt:=valN_mem (h.lt i hi)
   obtain ⟨a,b⟩:=r1 _ (getD_mem (d:=default) hlt)
   refine ⟨by simp only [okN,e1,e2,e3,List.length_map]at a⊢;exact a,fun v hv=> ?_⟩
   rw [e2]at hv
   obtain ⟨u,hu,rfl⟩:=List.mem_map.1 hv
   have hn:=h.nodes i hi
   rw [valN_get hlt]at hn
   exact hokv u (b u hu) (hn u hu)
  ·rw [h2]at hv
   obtain ⟨u,hu,rfl⟩:=List.mem_map.1 hv
   exact hokv u (r2 u hu) (h.roots u hu)
end Go.Proofs.YtphpppjfogpohaaGreat
