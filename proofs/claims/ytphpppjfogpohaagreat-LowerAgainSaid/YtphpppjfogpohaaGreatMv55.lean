/- Merged by program (merge.py) out of: LowB, LowC, LowD, LowE, LowT, LowU. -/
import Derived.Test.YtphpppjfogpohaaGreatMv54
import Derived.Test.YtphpppjfogpohaaGreatMv2
import Derived.Test.YtphpppjfogpohaaGreatMv17
import Derived.Test.YtphpppjfogpohaaGreatMv30
import Derived.Test.YtphpppjfogpohaaGreatMv21
import Derived.Test.YtphpppjfogpohaaGreatMv41
import Derived.Test.YtphpppjfogpohaaGreatMv1
import Derived.Test.YtphpppjfogpohaaGreatMv4
import Derived.Test.YtphpppjfogpohaaGreatMv29
import Derived.Test.YtphpppjfogpohaaGreatMv20
set_option linter.unusedSimpArgs false
set_option linter.unusedVariables false
set_option maxRecDepth 100000
set_option maxHeartbeats 16000000
namespace Go.Proofs.YtphpppjfogpohaaGreat
open Go.RowKit Go.Shelf
theorem lenc_bd (k x:Int):0≤encW k x∧encW k x < 18446744073709551616:=by
 unfold encW
 split
 ·split <;>omega
 ·omega
theorem lback_enc {k x:Int} (h:vmayB k x=true):decT (encW k x)=k∧decX (encW k x)=x∧decE (encW k x)=0:=by
 have h':=h
 simp only [vmayB,decide_eq_true_eq]at h'
 rcases h' with ⟨rfl,rfl⟩ | ⟨rfl,h1,h2⟩ | ⟨rfl,h1,h2⟩
 ·decide
 ·rw [(enc_1 h1 h2).1]
  simp only [decT,decX,decE]
  refine ⟨?_,?_,?_⟩ <;>(repeat' split) <;>omega
 ·rw [(enc_2 h1 h2).1]
  simp only [decT,decX,decE]
  refine ⟨?_,?_,?_⟩ <;>(repeat' split) <;>omega
theorem lword_dec {h:Hd} (hm:hmayB h=true):decH (hwordN h)=h∧hwordN h % 4=3:=by
 have h1:=hm
 simp only [hmayB,decide_eq_true_eq]at h1
 obtain ⟨k,f,r,m,c⟩:=h
 simp only at h1
 unfold hwordN decH
 simp only
 cases m <;>simp <;>omega
def SCh:Int→List (Int×Int)→Int→Prop
 | a,[],b=>a=b
 | a,x::l,b=>x.1=a∧1≤x.2∧SCh (a+x.2) l b
theorem SCh.snoc:∀ {l:List (Int×Int)} {a b n:Int},SCh a l b→1≤n→SCh a (l++ [(b,n)]) (b+n)
 | [],a,b,n,h,hn=>by
  have h:a=b:=h
  subst h
  exact ⟨rfl,hn,rfl⟩
 | x::l,a,b,n,h,hn=>⟨h.1,h.2.1,SCh.snoc h.2.2 hn⟩
theorem SCh.le:∀ {l:List (Int×Int)} {a b:Int},SCh a l b→a≤b∧∀x∈l,a≤x.1∧1≤x.2∧x.1+x.2≤b
 | [],a,b,h=>⟨Int.le_of_eq h,by simp⟩
 | x::l,a,b,h=>by
  obtain ⟨h1,h2,h3⟩:=h
  obtain ⟨i1,i2⟩:=SCh.le h3
  refine ⟨by omega,fun y hy=> ?_⟩
  rcases List.mem_cons.1 hy with rfl | hy
  ·omega
  ·have:=i2 y hy;omega
theorem SCh.pw:∀ {l:List (Int×Int)} {a b:Int},SCh a l b→l.Pairwise (fun x y=>x.1+x.2≤y.1)
 | [],a,b,h=>List.Pairwise.nil
 | x::l,a,b,h=>by
  obtain ⟨h1,h2,h3⟩:=h
  exact List.pairwise_cons.2 ⟨fun y hy=>by have:=(SCh.le h3).2 y hy;omega,SCh.pw h3⟩
theorem SCh.cov:∀ {l:List (Int×Int)} {a b:Int},SCh a l b→∀p,(∃x∈l,x.1≤p∧p < x.1+x.2)↔a≤p∧p < b
 | [],a,b,h,p=>by
  have h:a=b:=h
  subst h
  simp only [List.not_mem_nil,false_and,exists_false,false_iff]
  omega
 | x::l,a,b,h,p=>by
  obtain ⟨h1,h2,h3⟩:=h
  have ih:=SCh.cov h3 p
  have hle:=(SCh.le h3).1
  constructor
  ·rintro ⟨y,hy,h4⟩
   rcases List.mem_cons.1 hy with rfl | hy
   ·omega
   ·have:=ih.1 ⟨y,hy,h4⟩;omega
  ·intro h4
   by_cases h5:p < a+x.2
   ·exact ⟨x,List.mem_cons_self,by omega⟩
   ·obtain ⟨y,hy,h6⟩:=ih.2 (by omega)
    exact ⟨y,List.mem_cons_of_mem _ hy,h6⟩
def ixS (f:Int→Bool) (ns:List Int):List Nat:=(List.range ns.length).filter fun i=>f (ns.getD i 0)
theorem ixS_mem {f:Int→Bool} {ns:List Int} {i:Nat}:i∈ixS f ns↔i < ns.length∧f (ns.getD i 0)=true:=by simp [ixS,List.mem_filter]
theorem ixS_pw (f:Int→Bool) (ns:List Int):(ixS f ns).Pairwise (· < ·):=List.Pairwise.filter _ List.pairwise_lt_range
theorem ixS_snoc (f:Int→Bool) (ns:List Int) (n:Int):ixS f (ns++ [n])=ixS f ns++if f n then [ns.length]else []:=by
 unfold ixS
 rw [List.length_append,List.length_singleton,List.range_succ,List.filter_append]
 congr 1
 ·refine List.filter_congr fun i hi=> ?_
  rw [getD_appL (List.mem_range.1 hi)]
 ·rw [List.filter_cons,List.filter_nil,getD_appR (Nat.le_refl _),Nat.sub_self]
  rfl
theorem pw_at {α:Type} {f:Nat→α} {R:α→α→Prop}:∀ {l:List Nat},l.Pairwise (· < ·)→(l.map f).Pairwise R→∀ {i j:Nat},i∈l→j∈l→i < j→R (f i) (f j)
 | [],_,_,i,j,hi,_,_=>absurd hi (by simp)
 | a::l,h1,h2,i,j,hi,hj,hij=>by
  rw [List.map_cons,List.pairwise_cons]at h2
  rw [List.pairwise_cons]at h1
  rcases List.mem_cons.1 hi with ei | hi'
  ·rcases List.mem_cons.1 hj with ej | hj'
   ·omega
   ·rw [ei]
    exact h2.1 _ (List.mem_map.2 ⟨j,hj',rfl⟩)
  ·rcases List.mem_cons.1 hj with ej | hj'
   ·have:=h1.1 i hi';omega
   ·exact pw_at h1.2 h2.2 hi' hj' hij
def spI (ps ns:List Int) (i:Nat):Int×Int:=(ps.getD i 0,ns.getD i 0)
structure LwJ (ha la:Int) (f:Int→Bool) (ns:List Int) (s:LwS):Prop where
 len:s.pl.length=ns.length
 sm:SCh ha ((ixS f ns).map (spI s.pl ns)) s.top
 lg:SCh la s.tb (la+s.u)
 tb:s.tb=(ixS (fun n=> !f n) ns).map (spI s.pl ns)
theorem sp_snoc {f:Int→Bool} {ps ns:List Int} {p n:Int} (h:ps.length=ns.length):(ixS f ns).map (spI (ps++ [p]) (ns++ [n]))=(ixS f ns).map (spI ps ns):=by
 refine List.map_congr_left fun i hi=> ?_
 have:=(ixS_mem.1 hi).1
 unfold spI
 rw [getD_appL (by omega),getD_appL (by omega)]
section
variable {c0 c1 c2 c3 : Int} {sn : Bool}
theorem LwJ.start:LwJ (halfA c0 c1 c2 c3 sn) (largeA c0 c1 c2 c3) (smallB c0 c1 c2 c3) [] (lwS0 c0 c1 c2 c3 sn):=⟨rfl,rfl,by simp [lwS0,SCh],rfl⟩
theorem LwJ.step {ns:List Int} {s t:LwS} {n:Int} (h:LwJ (halfA c0 c1 c2 c3 sn) (largeA c0 c1 c2 c3) (smallB c0 c1 c2 c3) ns s) (hn:1≤n) (hs:lwStep c0 c1 c2 c3 sn s n=some t):LwJ (halfA c0 c1 c2 c3 sn) (largeA c0 c1 c2 c3) (smallB c0 c1 c2 c3) (ns++ [n]) t:=by
 obtain ⟨a,b,c,d⟩:=h
 have e:spI (s.pl++ [s.top]) (ns++ [n]) ns.length=(s.top,n):=by
  unfold spI
  rw [←a,getD_appR (Nat.le_refl _),a,getD_appR (Nat.le_refl _),Nat.sub_self]
  simp
 have e2:spI (s.pl++ [largeA c0 c1 c2 c3+s.u]) (ns++ [n]) ns.length=(largeA c0 c1 c2 c3+s.u,n):=by
  unfold spI
  rw [←a,getD_appR (Nat.le_refl _),a,getD_appR (Nat.le_refl _),Nat.sub_self]
  simp
 unfold lwStep at hs
 split at hs
 ·rename_i hsm
  split at hs
  ·cases hs
  ·injection hs with hs
   subst hs
   refine ⟨by simp [a],?_,c,?_⟩
   ·rw [ixS_snoc,if_pos hsm,List.map_append,sp_snoc a,List.map_singleton,e]
    exact b.snoc hn
   ·rw [ixS_snoc,if_neg (by simp [hsm]),List.append_nil,sp_snoc a]
    exact d
 ·rename_i hsm
  split at hs
  ·cases hs
  ·injection hs with hs
   subst hs
   refine ⟨by simp [a],?_,?_,?_⟩
   ·rw [ixS_snoc,if_neg hsm,List.append_nil,sp_snoc a]
    exact b
   ·have:=c.snoc hn
    simp only
    rw [←Int.add_assoc]
    exact this
   ·simp only
    rw [ixS_snoc,if_pos (by simpa using hsm),List.map_append,sp_snoc a,List.map_singleton,e2,←d]
theorem LwJ.run:∀(l ns:List Int) {s t:LwS},LwJ (halfA c0 c1 c2 c3 sn) (largeA c0 c1 c2 c3) (smallB c0 c1 c2 c3) ns s→(∀n∈l,1≤n)→lwRun c0 c1 c2 c3 sn s l=some t→LwJ (halfA c0 c1 c2 c3 sn) (largeA c0 c1 c2 c3) (smallB c0 c1 c2 c3) (ns++l) t
 | [],ns,s,t,h,_,e=>by
  injection e with e
  subst e
  rw [List.append_nil]
  exact h
 | n::l,ns,s,t,h,hn,e=>by
  simp only [lwRun]at e
  cases hs:lwStep c0 c1 c2 c3 sn s n with
  | none=>rw [hs]at e;cases e
  | some v=>
   rw [hs]at e
   have:=LwJ.run l (ns++ [n]) (h.step (hn n List.mem_cons_self) hs) (fun m hm=>hn m (List.mem_cons_of_mem _ hm)) e
   rwa [List.append_assoc,List.singleton_append]at this
end
section
variable {c0 c1 c2 c3 : Int} {sn : Bool} {G : GraphD}
def szs (G:GraphD):List Int:=G.ns.map sizeN
def ordL (c0 c1 c2 c3:Int) (G:GraphD):List Nat:=ixS (smallB c0 c1 c2 c3) (szs G)++ixS (fun n=> !smallB c0 c1 c2 c3 n) (szs G)
theorem szs_len:(szs G).length=G.ns.length:=by simp [szs]
theorem szs_get {i:Nat} (h:i < G.ns.length):(szs G).getD i 0=sizeN (G.ns.getD i default):=map_getD h
theorem ord_mem {i:Nat}:i∈ordL c0 c1 c2 c3 G↔i < G.ns.length:=by
 unfold ordL
 rw [List.mem_append,ixS_mem,ixS_mem,szs_len]
 cases smallB c0 c1 c2 c3 ((szs G).getD i 0) <;>simp
theorem ord_nodup:(ordL c0 c1 c2 c3 G).Nodup:=by
 unfold ordL
 rw [List.nodup_append]
 refine ⟨(ixS_pw _ _).imp fun h=>by omega,(ixS_pw _ _).imp fun h=>by omega,fun a ha b hb e=> ?_⟩
 subst e
 have h1:=(ixS_mem.1 ha).2
 have h2:=(ixS_mem.1 hb).2
 rw [h1]at h2
 cases h2
structure LayOk (c0 c1 c2 c3:Int) (sn:Bool) (G:GraphD):Prop where
 cfg:cfgB c0 c1 c2 c3=true
 right:rightG G=true
 slots:(G.rs.length:Int)≤c2
 inv:LwI c0 c1 c2 c3 sn (layS c0 c1 c2 c3 sn G)
 j:LwJ (halfA c0 c1 c2 c3 sn) (largeA c0 c1 c2 c3) (smallB c0 c1 c2 c3) (szs G) (layS c0 c1 c2 c3 sn G)
theorem LayOk.of (h:layE c0 c1 c2 c3 sn G=0):LayOk c0 c1 c2 c3 sn G:=by
 obtain ⟨h1,h2,h3,h4⟩:=lay_ok h
 refine ⟨h1,h2,h3,(lay_inv h).1,?_⟩
 have:=LwJ.run (szs G) [] (LwJ.start (c0:=c0) (c1:=c1) (c2:=c2) (c3:=c3) (sn:=sn)) (fun n hn=>by obtain ⟨x,hx,rfl⟩:=List.mem_map.1 hn;exact (size_right h2 hx).1) h4
 simpa using this
theorem cfg_parts (h:cfgB c0 c1 c2 c3=true):(2≤c0∧c0≤32768∧1≤c3∧c3≤c0∧0≤c1∧c1≤32768∧1≤c2∧c2≤1024)∧halfA c0 c1 c2 c3 sn=(if sn then c0 else 0)∧halfS c0 c1 c2 c3=c0∧largeA c0 c1 c2 c3=(if c1=0 then 0 else 2*c0)∧largeS c0 c1 c2 c3=c1∧wordsZ c0 c1 c2 c3=2*c0+c1:=by
 have h2:=h
 simp only [cfgB,decide_eq_true_eq]at h2
 refine ⟨h2,?_,?_,?_,?_,?_⟩ <;>simp only [halfA,halfS,largeA,largeS,wordsZ,h,if_true]
def plc (c0 c1 c2 c3:Int) (sn:Bool) (G:GraphD) (i:Nat):Int:=(layS c0 c1 c2 c3 sn G).pl.getD i 0
theorem LayOk.len (L:LayOk c0 c1 c2 c3 sn G):(layS c0 c1 c2 c3 sn G).pl.length=G.ns.length:=by rw [L.j.len,szs_len]
theorem LayOk.smallAt (L:LayOk c0 c1 c2 c3 sn G) {i:Nat} (hi:i < G.ns.length) (h:smallB c0 c1 c2 c3 ((szs G).getD i 0)=true):halfA c0 c1 c2 c3 sn≤plc c0 c1 c2 c3 sn G i∧1≤(szs G).getD i 0∧plc c0 c1 c2 c3 sn G i+(szs G).getD i 0≤(layS c0 c1 c2 c3 sn G).top:=
 L.j.sm.le.2 _ (List.mem_map.2 ⟨i,ixS_mem.2 ⟨by rw [szs_len];exact hi,h⟩,rfl⟩)
theorem LayOk.largeAt (L:LayOk c0 c1 c2 c3 sn G) {i:Nat} (hi:i < G.ns.length) (h:smallB c0 c1 c2 c3 ((szs G).getD i 0)=false):largeA c0 c1 c2 c3≤plc c0 c1 c2 c3 sn G i∧1≤(szs G).getD i 0∧plc c0 c1 c2 c3 sn G i+(szs G).getD i 0≤largeA c0 c1 c2 c3+(layS c0 c1 c2 c3 sn G).u:=by
 refine L.j.lg.le.2 (plc c0 c1 c2 c3 sn G i,(szs G).getD i 0) ?_
 rw [L.j.tb]
 exact List.mem_map.2 ⟨i,ixS_mem.2 ⟨by rw [szs_len];exact hi,by rw [h];rfl⟩,rfl⟩
theorem LayOk.at_ (L:LayOk c0 c1 c2 c3 sn G) {i:Nat} (hi:i < G.ns.length):0≤plc c0 c1 c2 c3 sn G i∧1≤(szs G).getD i 0∧plc c0 c1 c2 c3 sn G i+(szs G).getD i 0≤wordsZ c0 c1 c2 c3:=by
 obtain ⟨h1,h2,h3,h4,h5,h6⟩:=cfg_parts (sn:=sn) L.cfg
 have i1:=L.inv.hi
 have i2:=L.inv.u1
 have i3:=L.inv.u0
 cases hb:smallB c0 c1 c2 c3 ((szs G).getD i 0)with
 | true=>
  have:=L.smallAt hi hb
  rw [h2]at this i1
  rw [h3]at i1
  rw [h6]
  split at this <;>split at i1 <;>first | omega | contradiction
 | false=>
  have:=L.largeAt hi hb
  rw [h4]at this
  rw [h5]at i2
  rw [h6]
  split at this <;>omega
theorem LayOk.apart (L:LayOk c0 c1 c2 c3 sn G) {i j:Nat} (hi:i < G.ns.length) (hj:j < G.ns.length) (hij:i < j):plc c0 c1 c2 c3 sn G i+(szs G).getD i 0≤plc c0 c1 c2 c3 sn G j∨plc c0 c1 c2 c3 sn G j+(szs G).getD j 0≤plc c0 c1 c2 c3 sn G i:=by
 obtain ⟨h1,h2,h3,h4,h5,h6⟩:=cfg_parts (sn:=sn) L.cfg
 have i1:=L.inv.hi
 have i2:=L.inv.u1
 rw [h2,h3]at i1
 rw [h5]at i2
 cases hb:smallB c0 c1 c2 c3 ((szs G).getD i 0)with
 | true=>
  cases hc:smallB c0 c1 c2 c3 ((szs G).getD j 0)with
  | true=>exact .inl (pw_at (f:=spI (layS c0 c1 c2 c3 sn G).pl (szs G)) (R:=fun (x y:Int×Int)=>x.1+x.2≤y.1) (ixS_pw _ _) L.j.sm.pw (ixS_mem.2 ⟨by rw [szs_len];exact hi,hb⟩) (ixS_mem.2 ⟨by rw [szs_len];exact hj,hc⟩) hij)
  | false=>
   have a:=L.smallAt hi hb
   have b:=L.largeAt hj hc
   rw [h4]at b
   refine .inl ?_
   split at b <;>split at i1 <;>omega
 | false=>
  cases hc:smallB c0 c1 c2 c3 ((szs G).getD j 0)with
  | false=>
   have:=L.j.lg.pw
   rw [L.j.tb]at this
   exact .inl (pw_at (f:=spI (layS c0 c1 c2 c3 sn G).pl (szs G)) (R:=fun (x y:Int×Int)=>x.1+x.2≤y.1) (ixS_pw (fun n=> !smallB c0 c1 c2 c3 n) (szs G)) this (ixS_mem.2 ⟨by rw [szs_len];exact hi,by rw [hb];rfl⟩) (ixS_mem.2 ⟨by rw [szs_len];exact hj,by rw [hc];rfl⟩) hij)
  | true=>
   have a:=L.smallAt hj hc
   have b:=L.largeAt hi hb
   rw [h4]at b
   refine .inr ?_
   split at b <;>split at i1 <;>omega
end
theorem node_len {pl:List Int} {x:NodeD}:(nodeWs pl x).length=1+x.fields.length+x.raws.length:=by
 simp [nodeWs]
 omega
def inB (ws:List Int) (pl:List Int) (x:NodeD×Int):Prop:=x.2.toNat+(nodeWs pl x.1).length≤ws.length
theorem lwW_out (pl:List Int):∀(xs:List (NodeD×Int)) (ws:List Int) (q:Nat),(∀x∈xs,inB ws pl x)→(∀x∈xs,¬(x.2.toNat≤q∧q < x.2.toNat+(nodeWs pl x.1).length))→(lwW pl xs ws).getD q 0=ws.getD q 0
 | [],ws,q,_,_=>rfl
 | x::xs,ws,q,h1,h2=>by
  show (lwW pl xs (putW ws x.2.toNat (nodeWs pl x.1))).getD q 0=_
  rw [lwW_out pl xs _ q (fun y hy=>by unfold inB;rw [putW_len];exact h1 y (List.mem_cons_of_mem _ hy)) (fun y hy=>h2 y (List.mem_cons_of_mem _ hy)),putW_get _ _ _ _ (h1 x List.mem_cons_self),if_neg (h2 x List.mem_cons_self)]
theorem lwW_in (pl:List Int):∀(xs:List (NodeD×Int)) (ws:List Int) (k j:Nat),k < xs.length→(∀x∈xs,inB ws pl x)→
  xs.Pairwise (fun x y=>x.2.toNat+(nodeWs pl x.1).length≤y.2.toNat∨y.2.toNat+(nodeWs pl y.1).length≤x.2.toNat)→j < (nodeWs pl (xs.getD k default).1).length→
  (lwW pl xs ws).getD ((xs.getD k default).2.toNat+j) 0=(nodeWs pl (xs.getD k default).1).getD j 0
 | [],ws,k,j,hk,_,_,_=>absurd hk (by simp)
 | x::xs,ws,0,j,_,h1,h2,hj=>by
  rw [List.getD_cons_zero]at hj⊢
  show (lwW pl xs (putW ws x.2.toNat (nodeWs pl x.1))).getD _ 0=_
  rw [List.pairwise_cons]at h2
  rw [lwW_out pl xs _ _ (fun y hy=>by unfold inB;rw [putW_len];exact h1 y (List.mem_cons_of_mem _ hy)) (fun y hy=>by have:=h2.1 y hy;omega),putW_get _ _ _ _ (h1 x List.mem_cons_self),if_pos (by omega)]
  congr 1
  omega
 | x::xs,ws,k+1,j,hk,h1,h2,hj=>by
  rw [List.getD_cons_succ]at hj⊢
  rw [List.pairwise_cons]at h2
  exact lwW_in pl xs _ k j (by simpa using hk) (fun y hy=>by unfold inB;rw [putW_len];exact h1 y (List.mem_cons_of_mem _ hy)) h2.2 hj
section
variable {c0 c1 c2 c3 : Int} {sn : Bool} {G : GraphD}
def lwWs (c0 c1 c2 c3:Int) (sn:Bool) (G:GraphD):List Int:=lwW (layS c0 c1 c2 c3 sn G).pl (G.ns.zip (layS c0 c1 c2 c3 sn G).pl) (List.replicate (wordsZ c0 c1 c2 c3).toNat 0)
theorem lwWs_len:(lwWs c0 c1 c2 c3 sn G).length=(wordsZ c0 c1 c2 c3).toNat:=by rw [lwWs,lwW_len,List.length_replicate]
theorem LayOk.wlen (L:LayOk c0 c1 c2 c3 sn G):((lwWs c0 c1 c2 c3 sn G).length:Int)=wordsZ c0 c1 c2 c3:=by
 obtain ⟨h1, -, -, -, -,h6⟩:=cfg_parts (sn:=sn) L.cfg
 rw [lwWs_len,h6]
 omega
theorem LayOk.nlen (L:LayOk c0 c1 c2 c3 sn G) {i:Nat} (hi:i < G.ns.length):((nodeWs (layS c0 c1 c2 c3 sn G).pl (G.ns.getD i default)).length:Int)=(szs G).getD i 0:=by
 have:=(size_right L.right (getD_mem (d:=default) hi)).2.2
 rw [szs_get hi,this,node_len]
 omega
theorem lzip_get {i:Nat} {ns:List NodeD} {pl:List Int} (h1:i < ns.length) (h2:i < pl.length):(ns.zip pl).getD i default=(ns.getD i default,pl.getD i 0):=by
 rw [getD_get (by simp;omega),getD_get h1,getD_get h2,List.getElem_zip]
theorem lzip_getElem {i:Nat} {ns:List NodeD} {pl:List Int} (h:i < (ns.zip pl).length):(ns.zip pl)[i]=(ns.getD i default,pl.getD i 0):=by
 rw [←lzip_get (by simp at h;omega) (by simp at h;omega),getD_get h]
theorem LayOk.inB (L:LayOk c0 c1 c2 c3 sn G):∀x∈G.ns.zip (layS c0 c1 c2 c3 sn G).pl,inB (List.replicate (wordsZ c0 c1 c2 c3).toNat 0) (layS c0 c1 c2 c3 sn G).pl x:=fun x hx=>by
 obtain ⟨i,hi,rfl⟩:=List.getElem_of_mem hx
 rw [lzip_getElem hi]
 have hi':i < G.ns.length:=by simp at hi;omega
 have h1:=L.at_ hi'
 have h2:=L.nlen hi'
 unfold plc at h1
 show ((layS c0 c1 c2 c3 sn G).pl.getD i 0).toNat+(nodeWs (layS c0 c1 c2 c3 sn G).pl (G.ns.getD i default)).length≤(List.replicate (wordsZ c0 c1 c2 c3).toNat (0:Int)).length
 rw [List.length_replicate]
 omega
theorem LayOk.pw (L:LayOk c0 c1 c2 c3 sn G):(G.ns.zip (layS c0 c1 c2 c3 sn G).pl).Pairwise (fun x y=>x.2.toNat+(nodeWs (layS c0 c1 c2 c3 sn G).pl x.1).length≤y.2.toNat∨y.2.toNat+(nodeWs (layS c0 c1 c2 c3 sn G).pl y.1).length≤x.2.toNat):=by
 refine List.pairwise_iff_getElem.2 fun i j hi hj hij=> ?_
 rw [lzip_getElem hi,lzip_getElem hj]
 have hi':i < G.ns.length:=by simp at hi;omega
 have hj':j < G.ns.length:=by simp at hj;omega
 have h1:=L.apart hi' hj' hij
 have h2:=L.nlen hi'
 have h3:=L.nlen hj'
 have h4:=L.at_ hi'
 have h5:=L.at_ hj'
 unfold plc at h1 h4 h5
 show ((layS c0 c1 c2 c3 sn G).pl.getD i 0).toNat+(nodeWs (layS c0 c1 c2 c3 sn G).pl (G.ns.getD i default)).length≤((layS c0 c1 c2 c3 sn G).pl.getD j 0).toNat∨((layS c0 c1 c2 c3 sn G).pl.getD j 0).toNat+(nodeWs (layS c0 c1 c2 c3 sn G).pl (G.ns.getD j default)).length≤((layS c0 c1 c2 c3 sn G).pl.getD i 0).toNat
 omega
theorem LayOk.words (L:LayOk c0 c1 c2 c3 sn G) {i j:Nat} (hi:i < G.ns.length) (hj:j < (nodeWs (layS c0 c1 c2 c3 sn G).pl (G.ns.getD i default)).length):
  wdZ (lwWs c0 c1 c2 c3 sn G) (plc c0 c1 c2 c3 sn G i+j)=(nodeWs (layS c0 c1 c2 c3 sn G).pl (G.ns.getD i default)).getD j 0:=by
 have hz:=lzip_get hi (show i < (layS c0 c1 c2 c3 sn G).pl.length by rw [L.len];exact hi)
 have h:=lwW_in (layS c0 c1 c2 c3 sn G).pl (G.ns.zip (layS c0 c1 c2 c3 sn G).pl) (List.replicate (wordsZ c0 c1 c2 c3).toNat 0) i j (by have:=L.len;simp;omega) L.inB L.pw (by rw [hz];exact hj)
 rw [hz]at h
 have h4:=(L.at_ hi).1
 unfold wdZ
 rw [show (plc c0 c1 c2 c3 sn G i+j).toNat=((layS c0 c1 c2 c3 sn G).pl.getD i 0).toNat+j by unfold plc at h4⊢;omega]
 exact h
theorem head_may {x:NodeD} (h:okN x=true):hmayB (headN x)=true:=by
 simp only [okN,decide_eq_true_eq]at h
 obtain ⟨h1,h2,h3,h4⟩:=h
 refine decide_eq_true ⟨h1,h2,?_,?_,?_,?_,?_,?_⟩
 ·exact Int.natCast_nonneg _
 ·show ((x.fields.length:Nat):Int)≤4096
  omega
 ·exact Int.natCast_nonneg _
 ·show ((x.raws.length:Nat):Int)≤4096
  omega
 ·exact Int.le_refl 0
 ·show (0:Int)≤1048576
  decide
theorem LayOk.ok (L:LayOk c0 c1 c2 c3 sn G) {i:Nat} (hi:i < G.ns.length):okN (G.ns.getD i default)=true∧∀v∈(G.ns.getD i default).fields,okV G.ns.length v=true:=(right_parts L.right).1 _ (getD_mem hi)
theorem LayOk.head (L:LayOk c0 c1 c2 c3 sn G) {i:Nat} (hi:i < G.ns.length):headE (some (lwWs c0 c1 c2 c3 sn G)) (plc c0 c1 c2 c3 sn G i)=0∧headH (some (lwWs c0 c1 c2 c3 sn G)) (plc c0 c1 c2 c3 sn G i)=headN (G.ns.getD i default):=by
 have hm:=head_may (L.ok hi).1
 obtain ⟨d1,d2⟩:=lword_dec hm
 have h4:=L.at_ hi
 have hl:=L.wlen
 have hw:=L.words hi (j:=0) (by rw [node_len];omega)
 rw [Int.natCast_zero,Int.add_zero]at hw
 have hr:rdA (some (lwWs c0 c1 c2 c3 sn G)) (plc c0 c1 c2 c3 sn G i)=(hwordN (headN (G.ns.getD i default)):Nat):=by
  rw [rd_get (by omega) (by omega),hw]
  show hwordZ (headN (G.ns.getD i default))=_
  rw [hwordZ,if_pos hm]
 have ha:atA (some (lwWs c0 c1 c2 c3 sn G)) (plc c0 c1 c2 c3 sn G i)=0:=by
  simp only [atA]
  rw [if_neg (by omega)]
 have hd:hdecB (hwordN (headN (G.ns.getD i default)))=true:=by
  unfold hdecB
  rw [d1,d2,hm]
  rfl
 have hs:hsize (headN (G.ns.getD i default))=(szs G).getD i 0:=by
  rw [hsize,if_pos hm,szs_get hi,(size_right L.right (getD_mem (d:=default) hi)).2.2]
  rfl
 have he:headE (some (lwWs c0 c1 c2 c3 sn G)) (plc c0 c1 c2 c3 sn G i)=0:=by
  unfold headE
  rw [if_pos ha,hr,Int.toNat_natCast,if_pos hd,d1,hs,if_neg]
  show ¬(((lwWs c0 c1 c2 c3 sn G).length:Int) - _ < _)
  omega
 exact ⟨he,by rw [headH,if_pos he,hr,Int.toNat_natCast,d1]⟩
theorem LayOk.hsz (L:LayOk c0 c1 c2 c3 sn G) {i:Nat} (hi:i < G.ns.length):hsize (headH (some (lwWs c0 c1 c2 c3 sn G)) (plc c0 c1 c2 c3 sn G i))=(szs G).getD i 0:=by
 rw [(L.head hi).2,hsize,if_pos (head_may (L.ok hi).1),szs_get hi,(size_right L.right (getD_mem (d:=default) hi)).2.2]
 rfl
theorem chain_sch {l:Option (List Int)}:∀ {xs:List (Int×Int)} {a b:Int},SCh a xs b→(∀x∈xs,headE l x.1=0∧hsize (headH l x.1)=x.2)→Chain l b a (xs.map (·.1))
 | [],a,b,h,_=>by
  have h:a=b:=h
  subst h
  exact Chain.nil
 | x::xs,a,b,h,h1=>by
  obtain ⟨e,h2,h3⟩:=h
  subst e
  obtain ⟨g1,g2⟩:=h1 x List.mem_cons_self
  have hle:=(SCh.le h3).1
  refine Chain.cons (by omega) g1 (by omega) ?_
  rw [g2]
  exact chain_sch h3 fun y hy=>h1 y (List.mem_cons_of_mem _ hy)
theorem LayOk.walk (L:LayOk c0 c1 c2 c3 sn G):stopE (some (lwWs c0 c1 c2 c3 sn G)) (halfA c0 c1 c2 c3 sn) (halfS c0 c1 c2 c3) (layS c0 c1 c2 c3 sn G).top=0∧smallsL c0 c1 c2 c3 sn (lwWs c0 c1 c2 c3 sn G) (layS c0 c1 c2 c3 sn G).top=(ixS (smallB c0 c1 c2 c3) (szs G)).map (plc c0 c1 c2 c3 sn G):=by
 have hc:=chain_sch (l:=some (lwWs c0 c1 c2 c3 sn G)) L.j.sm (fun x hx=>by
  obtain ⟨i,hi,rfl⟩:=List.mem_map.1 hx
  have hi':i < G.ns.length:=by rw [←szs_len];exact (ixS_mem.1 hi).1
  exact ⟨(L.head hi').1,L.hsz hi'⟩)
 obtain ⟨e1,e2⟩:=hc.list
 obtain ⟨h1,h2,h3,h4,h5,h6⟩:=cfg_parts (sn:=sn) L.cfg
 have i1:=L.inv.lo
 have i2:=L.inv.hi
 have hwk:wkB (halfA c0 c1 c2 c3 sn) (halfS c0 c1 c2 c3) (layS c0 c1 c2 c3 sn G).top=true:=by
  simp only [wkB,mayB,Bool.and_eq_true,decide_eq_true_eq]
  refine ⟨?_,i1,i2⟩
  rw [h2,h3]
  split <;>omega
 have hst:stopE (some (lwWs c0 c1 c2 c3 sn G)) (halfA c0 c1 c2 c3 sn) (halfS c0 c1 c2 c3) (layS c0 c1 c2 c3 sn G).top=0:=by
  rw [stopE,if_pos hwk,e2]
 refine ⟨hst,?_⟩
 rw [smallsL,listA,if_pos hst,e1,List.map_map]
 rfl
theorem LayOk.tbl (L:LayOk c0 c1 c2 c3 sn G):(layS c0 c1 c2 c3 sn G).tb.map (·.1)=(ixS (fun n=> !smallB c0 c1 c2 c3 n) (szs G)).map (plc c0 c1 c2 c3 sn G):=by
 rw [L.j.tb,List.map_map]
 rfl
theorem plc_inj (L:LayOk c0 c1 c2 c3 sn G) {i j:Nat} (hi:i < G.ns.length) (hj:j < G.ns.length) (h:plc c0 c1 c2 c3 sn G i=plc c0 c1 c2 c3 sn G j):i=j:=by
 have h1:=L.at_ hi
 have h2:=L.at_ hj
 rcases Nat.lt_trichotomy i j with h3 | h3 | h3
 ·have:=L.apart hi hj h3;omega
 ·exact h3
 ·have:=L.apart hj hi h3;omega
theorem LayOk.word (L:LayOk c0 c1 c2 c3 sn G) {v:Int×Int} (hv:okV G.ns.length v=true):
  decE (wordV (layS c0 c1 c2 c3 sn G).pl v)=0∧decT (wordV (layS c0 c1 c2 c3 sn G).pl v)=v.1∧decX (wordV (layS c0 c1 c2 c3 sn G).pl v)=(if v.1=2 then plc c0 c1 c2 c3 sn G v.2.toNat else v.2)∧(v.1=2→0≤v.2∧v.2 < G.ns.length):=by
 obtain ⟨k,x⟩:=v
 simp only [okV,Bool.and_eq_true,Bool.or_eq_true,decide_eq_true_eq,ne_eq]at hv
 unfold wordV
 simp only
 by_cases h2:k=2
 ·subst h2
  have hx:0≤x∧x < G.ns.length:=by
   have:=hv.1
   simp only [vmayB,decide_eq_true_eq]at this
   rcases hv.2 with h | h
   ·exact absurd rfl h
   ·omega
  have hb:=L.at_ (i:=x.toNat) (by omega)
  obtain ⟨h1, -, -, -, -,h6⟩:=cfg_parts (sn:=sn) L.cfg
  rw [if_pos rfl,if_pos rfl]
  obtain ⟨a,b,c⟩:=lback_enc (k:=2) (x:=plc c0 c1 c2 c3 sn G x.toNat) (decide_eq_true (.inr (.inr ⟨rfl,hb.1,by omega⟩)))
  exact ⟨c,a,b,fun _=>hx⟩
 ·rw [if_neg h2,if_neg h2]
  obtain ⟨a,b,c⟩:=lback_enc hv.1
  exact ⟨c,a,b,fun e=>absurd e h2⟩
theorem place_ord (L:LayOk c0 c1 c2 c3 sn G) {x:Nat} (hx:x < G.ns.length):placeZ ((ordL c0 c1 c2 c3 G).map (plc c0 c1 c2 c3 sn G)) (plc c0 c1 c2 c3 sn G x)=placeZ (ordZ (ordL c0 c1 c2 c3 G)) x∧0≤placeZ (ordZ (ordL c0 c1 c2 c3 G)) x:=by
 obtain ⟨j,hj,e1,e2⟩:=ord_place (o:=ordL c0 c1 c2 c3 G) ord_nodup (x:=(x:Int)) (by omega) (by rw [Int.toNat_natCast];exact ord_mem.2 hx)
 rw [Int.toNat_natCast]at e2
 refine ⟨?_,by rw [e1];omega⟩
 rw [e1]
 have hget:∀k,k < (ordL c0 c1 c2 c3 G).length→((ordL c0 c1 c2 c3 G).map (plc c0 c1 c2 c3 sn G)).getD k 0=plc c0 c1 c2 c3 sn G ((ordL c0 c1 c2 c3 G).getD k 0):=fun k hk=>map_getD hk
 rcases place_cases ((ordL c0 c1 c2 c3 G).map (plc c0 c1 c2 c3 sn G)) (plc c0 c1 c2 c3 sn G x)with ⟨-,h⟩ | ⟨k,hk,h1,h2, -⟩
 ·exact absurd rfl (h _ (List.mem_map.2 ⟨x,ord_mem.2 hx,rfl⟩))
 ·rw [List.length_map]at hk
  rw [hget k hk]at h2
  have hm:(ordL c0 c1 c2 c3 G).getD k 0 < G.ns.length:=ord_mem.1 (getD_mem' hk)
  have:=plc_inj L hm hx h2
  rw [h1,nodup_inj ord_nodup hk hj (by rw [this,e2])]
theorem LayOk.turn (L:LayOk c0 c1 c2 c3 sn G) {v:Int×Int} (hv:okV G.ns.length v=true):turnZ ((ordL c0 c1 c2 c3 G).map (plc c0 c1 c2 c3 sn G)) (wordV (layS c0 c1 c2 c3 sn G).pl v)=turned (ordZ (ordL c0 c1 c2 c3 G)) v:=by
 obtain ⟨-,a,b,c⟩:=L.word hv
 unfold turnZ turned
 rw [a,b]
 by_cases h2:v.1=2
 ·obtain ⟨c1',c2'⟩:=c h2
  obtain ⟨p1,p2⟩:=place_ord L (x:=v.2.toNat) (by omega)
  rw [if_pos h2,if_pos h2,if_pos h2,p1,if_neg (by omega),show ((v.2.toNat:Nat):Int)=v.2 by omega]
 ·rw [if_neg h2,if_neg h2,if_neg h2]
end
section
variable {c0 c1 c2 c3 : Int} {sn : Bool} {G : GraphD}
theorem LayOk.led (L:LayOk c0 c1 c2 c3 sn G):ledR (largeA c0 c1 c2 c3) (largeS c0 c1 c2 c3) (layS c0 c1 c2 c3 sn G).tb (frL (largeA c0 c1 c2 c3) (largeS c0 c1 c2 c3) (layS c0 c1 c2 c3 sn G).u)=true:=by
 obtain ⟨h1,h2,h3,h4,h5,h6⟩:=cfg_parts (sn:=sn) L.cfg
 have i2:=L.inv.u1
 have i3:=L.inv.u0
 have hle:=L.j.lg.le
 have hcov:=L.j.lg.cov
 have hpw:=L.j.lg.pw
 generalize layS c0 c1 c2 c3 sn G=s at*
 generalize largeA c0 c1 c2 c3=la at*
 generalize largeS c0 c1 c2 c3=ls at*
 have b1:0≤la∧la≤65536:=by rw [h4];split <;>omega
 have b2:ls≤32768:=by omega
 clear h2 h3 h4 h5 h6 h1
 obtain ⟨-,hle⟩:=hle
 rw [ledR_iff]
 constructor
 ·unfold ledB
  rw [Bool.and_eq_true]
  refine ⟨List.all_eq_true.2 fun x hx=> ?_,chain_iff.2 ⟨fun x hx=> ?_,hpw⟩⟩
  ·have:=hle x hx
   simp only [withinB,mayB,Bool.and_eq_true,decide_eq_true_eq]
   omega
  ·have:=hle x hx
   simp only [mayB,decide_eq_true_eq]
   omega
 ·refine gaps_of_right (right_iff.2 ⟨fun x hx=> ?_,?_⟩) fun q=> ?_
  ·unfold frL at hx
   split at hx
   ·rw [List.mem_singleton]at hx
    subst hx
    simp only [withinB,mayB,Bool.and_eq_true,decide_eq_true_eq]
    omega
   ·cases hx
  ·unfold frL
   split <;>simp
  ·have e1 : coveredB s.tb q = true ↔ la ≤ q ∧ q < la + s.u := by
    rw [covered_iff,←hcov q]
    constructor
    ·rintro ⟨x,hx, -,hq⟩
     exact ⟨x,hx,hq⟩
    ·rintro ⟨x,hx,hq⟩
     have:=hle x hx
     exact ⟨x,hx,by simp only [mayB,decide_eq_true_eq];omega,hq⟩
   have e2:coveredB (frL la ls s.u) q=true↔la+s.u≤q∧q < la+ls:=by
    unfold frL
    by_cases hu:s.u < ls
    ·rw [if_pos hu]
     simp only [coveredB,List.any_cons,List.any_nil,Bool.or_false,hasB,mayB,Bool.and_eq_true,decide_eq_true_eq]
     omega
    ·rw [if_neg hu]
     exact ⟨fun h=>(by cases h),fun h=>(by omega)⟩
   have e3:hasB la ls q=true↔la≤q∧q < la+ls:=by
    simp only [hasB,mayB,Bool.and_eq_true,decide_eq_true_eq]
    omega
   rw [e2,e3]
   cases hb:coveredB s.tb q with
   | true=>
    have:=e1.1 hb
    exact ⟨fun h=>(by omega),fun h=>(by cases h.2)⟩
   | false=>
    have hn:¬(la≤q∧q < la+s.u):=fun h=>by rw [e1.2 h]at hb;cases hb
    refine ⟨fun h=>⟨by omega,rfl⟩,fun h=>by have:=h.1;omega⟩
theorem LayOk.quiet (L:LayOk c0 c1 c2 c3 sn G) {i:Nat} (hi:i < G.ns.length):quietB (headH (some (lwWs c0 c1 c2 c3 sn G)) (plc c0 c1 c2 c3 sn G i))=true:=by
 rw [(L.head hi).2]
 rfl
theorem LayOk.objs (L:LayOk c0 c1 c2 c3 sn G):smallsL c0 c1 c2 c3 sn (lwWs c0 c1 c2 c3 sn G) (layS c0 c1 c2 c3 sn G).top++(layS c0 c1 c2 c3 sn G).tb.map (·.1)=(ordL c0 c1 c2 c3 G).map (plc c0 c1 c2 c3 sn G):=by
 rw [L.walk.2,L.tbl,ordL,List.map_append]
theorem LayOk.starts (L:LayOk c0 c1 c2 c3 sn G) {x:Nat} (hx:x < G.ns.length):startsB (smallsL c0 c1 c2 c3 sn (lwWs c0 c1 c2 c3 sn G) (layS c0 c1 c2 c3 sn G).top) (layS c0 c1 c2 c3 sn G).tb (plc c0 c1 c2 c3 sn G x)=true:=by
 simp only [startsB,Bool.or_eq_true,decide_eq_true_eq]
 exact List.mem_append.1 (by rw [L.objs];exact List.mem_map.2 ⟨x,ord_mem.2 hx,rfl⟩)
theorem LayOk.leads (L:LayOk c0 c1 c2 c3 sn G) {v:Int×Int} (hv:okV G.ns.length v=true):leadsB (startsB (smallsL c0 c1 c2 c3 sn (lwWs c0 c1 c2 c3 sn G) (layS c0 c1 c2 c3 sn G).top) (layS c0 c1 c2 c3 sn G).tb) (wordV (layS c0 c1 c2 c3 sn G).pl v)=true:=by
 obtain ⟨a,b,c,d⟩:=L.word hv
 simp only [leadsB,Bool.and_eq_true,decide_eq_true_eq,Bool.or_eq_true,Bool.not_eq_true',beq_eq_false_iff_ne]
 refine ⟨a,?_⟩
 by_cases h2:v.1=2
 ·refine .inr ?_
  rw [c,if_pos h2]
  exact L.starts (by have:=d h2;omega)
 ·exact .inl (by rw [b];exact h2)
theorem LayOk.fw (L:LayOk c0 c1 c2 c3 sn G) {i k:Nat} (hi:i < G.ns.length) (hk:k < (G.ns.getD i default).fields.length):wdZ (lwWs c0 c1 c2 c3 sn G) (plc c0 c1 c2 c3 sn G i+1+k)=wordV (layS c0 c1 c2 c3 sn G).pl ((G.ns.getD i default).fields.getD k (0,0)):=by
 have h:=L.words hi (j:=1+k) (by rw [node_len];omega)
 rw [show plc c0 c1 c2 c3 sn G i+((1+k:Nat):Int)=plc c0 c1 c2 c3 sn G i+1+k by omega]at h
 rw [h,show 1+k=k+1 by omega,nodeWs,List.getD_cons_succ,getD_appL (by simpa using hk),map_getD hk]
theorem LayOk.rw_ (L:LayOk c0 c1 c2 c3 sn G) {i k:Nat} (hi:i < G.ns.length) (hk:k < (G.ns.getD i default).raws.length):wdZ (lwWs c0 c1 c2 c3 sn G) (plc c0 c1 c2 c3 sn G i+1+(G.ns.getD i default).fields.length+k)=(G.ns.getD i default).raws.getD k 0:=by
 have h:=L.words hi (j:=1+(G.ns.getD i default).fields.length+k) (by rw [node_len];omega)
 rw [show plc c0 c1 c2 c3 sn G i+((1+(G.ns.getD i default).fields.length+k:Nat):Int)=plc c0 c1 c2 c3 sn G i+1+(G.ns.getD i default).fields.length+k by omega]at h
 rw [h,show 1+(G.ns.getD i default).fields.length+k=((G.ns.getD i default).fields.length+k)+1 by omega,nodeWs,List.getD_cons_succ,getD_appR (by rw [List.length_map];omega),List.length_map]
 congr 1
 omega
theorem LayOk.all (L:LayOk c0 c1 c2 c3 sn G):AllOk c0 c1 c2 c3 sn (lwWs c0 c1 c2 c3 sn G) (layS c0 c1 c2 c3 sn G).top (layS c0 c1 c2 c3 sn G).tb (frL (largeA c0 c1 c2 c3) (largeS c0 c1 c2 c3) (layS c0 c1 c2 c3 sn G).u) (lwSl (layS c0 c1 c2 c3 sn G).pl G.rs c2.toNat G.rs.length):=by
 obtain ⟨h1,h2,h3,h4,h5,h6⟩:=cfg_parts (sn:=sn) L.cfg
 have hsl:=L.slots
 refine ⟨L.cfg,decide_eq_true L.wlen,decide_eq_true ⟨L.inv.lo,L.inv.hi⟩,L.walk.1,List.all_eq_true.2 fun z hz=> ?_,L.led,List.all_eq_true.2 fun x hx=> ?_,?_,List.all_eq_true.2 fun z hz=> ?_,List.all_eq_true.2 fun x hx=> ?_⟩
 ·rw [L.walk.2]at hz
  obtain ⟨i,hi,rfl⟩:=List.mem_map.1 hz
  have hi':i < G.ns.length:=by rw [←szs_len];exact (ixS_mem.1 hi).1
  unfold smallO
  rw [L.quiet hi',L.hsz hi',(ixS_mem.1 hi).2]
  rfl
 ·rw [L.j.tb]at hx
  obtain ⟨i,hi,rfl⟩:=List.mem_map.1 hx
  have hi':i < G.ns.length:=by rw [←szs_len];exact (ixS_mem.1 hi).1
  have hm:=(ixS_mem.1 hi).2
  show largeO _ c0 c1 c2 c3 (plc c0 c1 c2 c3 sn G i,(szs G).getD i 0)=true
  unfold largeO
  simp only
  rw [L.quiet hi',L.hsz hi',(L.head hi').1,hm]
  simp
 ·unfold slotsB
  rw [Bool.and_eq_true]
  refine ⟨List.all_eq_true.2 fun x hx=> ?_,decide_eq_true ⟨?_,by omega,by omega⟩⟩
  ·unfold lwSl at hx
   rcases List.mem_append.1 hx with hx | hx
   ·obtain ⟨v,hv,rfl⟩:=List.mem_map.1 hx
    have:=(L.word ((right_parts L.right).2 v (List.mem_of_mem_take hv))).1
    simp [slotB,this,goodB]
   ·rw [List.eq_of_mem_replicate hx]
    decide
  ·rw [lwSl_len (Nat.le_refl _) (by omega)]
   omega
 ·rw [L.objs]at hz
  obtain ⟨i,hi,rfl⟩:=List.mem_map.1 hz
  have hi':=ord_mem.1 hi
  unfold fieldsO
  rw [(L.head hi').2]
  refine List.all_eq_true.2 fun k hk=> ?_
  have hk2:k < (G.ns.getD i default).fields.length:=by
   have:=List.mem_range.1 hk
   simpa [headN]using this
  have hat:=L.at_ hi'
  have hnl:=L.nlen hi'
  have hwl:=L.wlen
  rw [node_len]at hnl
  have hpe:placeE (some (lwWs c0 c1 c2 c3 sn G)) (plc c0 c1 c2 c3 sn G i) k false=0:=by
   rw [placeE,if_pos (L.head hi').1,if_pos ⟨by omega,by rw [(L.head hi').2];simpa [placeN,headN]using hk2⟩]
  have hpz:oplZ (some (lwWs c0 c1 c2 c3 sn G)) (plc c0 c1 c2 c3 sn G i) k false=plc c0 c1 c2 c3 sn G i+1+k:=by
   rw [oplZ,if_pos hpe]
   simp [placeO]
  have hfz:fldZ (some (lwWs c0 c1 c2 c3 sn G)) (plc c0 c1 c2 c3 sn G i) k false=wdZ (lwWs c0 c1 c2 c3 sn G) (plc c0 c1 c2 c3 sn G i+1+k):=by
   rw [fldZ,if_pos hpe,hpz,rd_get (by omega) (by omega)]
  rw [hfz,L.fw hi' hk2]
  exact L.leads ((L.ok hi').2 _ (getD_mem hk2))
 ·unfold lwSl at hx
  rcases List.mem_append.1 hx with hx | hx
  ·obtain ⟨v,hv,rfl⟩:=List.mem_map.1 hx
   have:=L.leads ((right_parts L.right).2 v (List.mem_of_mem_take hv))
   simp only [handleB,this,Bool.or_true]
  ·rw [List.eq_of_mem_replicate hx]
   rfl
theorem lwSl_used {pl:List Int} {rs:List (Int×Int)} {n:Nat}:usedL (lwSl pl rs n rs.length)=rs.map (wordV pl):=by
 unfold usedL lwSl
 rw [List.take_length,List.filter_append,List.map_append,List.filter_eq_self.2 (fun x hx=>by obtain ⟨v, -,rfl⟩:=List.mem_map.1 hx;rfl),List.filter_eq_nil_iff.2 (fun x hx=>by rw [List.eq_of_mem_replicate hx];simp),List.map_nil,List.append_nil,List.map_map]
 rfl
theorem ord_len:(ordL c0 c1 c2 c3 G).length=G.ns.length:=
 ((List.perm_ext_iff_of_nodup ord_nodup List.nodup_range).2 fun i=>by rw [ord_mem,List.mem_range]).length_eq.trans List.length_range
theorem LayOk.ord (L:LayOk c0 c1 c2 c3 sn G):OrdOk (valN G) G.rs (ordL c0 c1 c2 c3 G):=by
 obtain ⟨r1,r2⟩:=right_parts L.right
 refine ⟨ord_nodup,fun i hi=>by rw [valN,List.length_map];exact ord_mem.1 hi,fun v hv e=> ?_,fun i hi v hv e=> ?_⟩
 ·have:=okV_ref2 (r2 v hv) e
  exact ⟨this.1,ord_mem.2 (by omega)⟩
 ·have hi':=ord_mem.1 hi
  rw [valN_get hi']at hv
  have:=okV_ref2 ((L.ok hi').2 v hv) e
  exact ⟨this.1,ord_mem.2 (by omega)⟩
theorem LayOk.node (L:LayOk c0 c1 c2 c3 sn G) {i:Nat} (hi':i < G.ns.length):nodeL (lwWs c0 c1 c2 c3 sn G) ((ordL c0 c1 c2 c3 G).map (plc c0 c1 c2 c3 sn G)) (plc c0 c1 c2 c3 sn G i)=turnV (valN G) (ordL c0 c1 c2 c3 G) i:=by
 unfold nodeL turnV
 rw [(L.head hi').2,valN_get hi']
 refine Prod.ext rfl (Prod.ext ?_ ?_)
 ·refine List.ext_getElem (by simp [headN,nodeV]) fun k h1 h2=> ?_
  have hk2:k < (G.ns.getD i default).fields.length:=by simpa [nodeV]using h2
  simp only [List.getElem_map,List.getElem_range]
  rw [L.fw hi' hk2,L.turn ((L.ok hi').2 _ (getD_mem hk2)),getD_get hk2]
  rfl
 ·refine List.ext_getElem (by simp [headN,nodeV]) fun k h1 h2=> ?_
  have hk2:k < (G.ns.getD i default).raws.length:=by simpa [nodeV]using h2
  simp only [List.getElem_map,List.getElem_range]
  exact (L.rw_ hi' hk2).trans (getD_get hk2)
theorem lwSt_eq (h:layE c0 c1 c2 c3 sn G=0):lwSt c0 c1 c2 c3 sn G=⟨c0,c1,c2,c3,sn,none,lwWs c0 c1 c2 c3 sn G,0,(layS c0 c1 c2 c3 sn G).top,none,(layS c0 c1 c2 c3 sn G).tb,0,none,frL (largeA c0 c1 c2 c3) (largeS c0 c1 c2 c3) (layS c0 c1 c2 c3 sn G).u,0,none,lwSl (layS c0 c1 c2 c3 sn G).pl G.rs c2.toNat G.rs.length,0⟩:=by
 rw [lwSt,if_pos h]
 rfl
theorem lowered {t:StD} (h:layE c0 c1 c2 c3 sn G=0) (hv:eqvS t (lwSt c0 c1 c2 c3 sn G)=true):chkS t=0∧objsL t=(ordL c0 c1 c2 c3 G).map (plc c0 c1 c2 c3 sn G)∧liftV t=canN (valN G) (ordL c0 c1 c2 c3 G)∧liftQ t=canR G.rs (ordL c0 c1 c2 c3 G):=by
 have L:=LayOk.of h
 rw [lwSt_eq h,eqvS_iff]at hv
 obtain ⟨⟨a,b,c,d⟩,e1,e2,e3,e4,e5,e6⟩:=hv
 simp only at a b c d e1 e2 e3 e4 e5 e6
 have hO:objsL t=(ordL c0 c1 c2 c3 G).map (plc c0 c1 c2 c3 sn G):=by
  unfold objsL
  rw [a,b,c,d,e1,e2,e3,e4]
  exact L.objs
 have hC:chkS t=0:=by
  unfold chkS
  rw [a,b,c,d,e1,e2,e3,e4,e5,e6]
  exact ok_check L.all
 refine ⟨hC,hO,?_,?_⟩
 ·rw [liftV,if_pos hC,hO,e3,List.map_map]
  exact List.map_congr_left fun i hi=>L.node (ord_mem.1 hi)
 ·rw [liftQ,if_pos hC,hO,e6,lwSl_used,List.map_map]
  exact List.map_congr_left fun v hv=>L.turn ((right_parts L.right).2 v hv)
end
theorem ixS_cons (f:Int→Bool) (a:Int) (l:List Int):ixS f (a::l)=(if f a then [0]else [])++(ixS f l).map (·+1):=by
 unfold ixS
 rw [List.length_cons,List.range_succ_eq_map,List.filter_cons,List.filter_map]
 have e:(fun i=>f ((a::l).getD i 0)) ∘ Nat.succ=fun i=>f (l.getD i 0):=by
  funext i
  rfl
 rw [e]
 simp only [List.getD_cons_zero]
 split <;>rfl
theorem ixS_filter (f:Int→Bool):∀l:List Int,(ixS f l).map (fun i=>l.getD i 0)=l.filter f
 | []=>rfl
 | a::l=>by
  have h:=ixS_filter f l
  rw [ixS_cons,List.map_append,List.map_map,List.filter_cons]
  have e:((fun i=>(a::l).getD i 0) ∘ fun (i:Nat)=>i+1)=fun i=>l.getD i 0:=by
   funext i
   rfl
  rw [e,h]
  split <;>simp
theorem ixS_two {f:Int→Bool} {B:List Int} (hB:∀x∈B,f x=false):∀A:List Int,(∀x∈A,f x=true)→
  ixS f (A++B)=List.range A.length∧ixS (fun n=> !f n) (A++B)=(List.range B.length).map (A.length+·)
 | [],_=>by
  rw [List.nil_append]
  constructor
  ·unfold ixS
   refine List.filter_eq_nil_iff.2 fun i hi=> ?_
   rw [hB _ (getD_mem (List.mem_range.1 hi))]
   decide
  ·unfold ixS
   rw [List.filter_eq_self.2 fun i hi=>by show (!f (B.getD i 0))=true;rw [hB _ (getD_mem (List.mem_range.1 hi))];rfl]
   refine ((List.map_congr_left fun i _=> ?_).trans (List.map_id _)).symm
   show [].length+i=id i
   simp
 | a::A,hA=>by
  obtain ⟨h1,h2⟩:=ixS_two hB A fun x hx=>hA x (List.mem_cons_of_mem _ hx)
  have ha:=hA a List.mem_cons_self
  rw [List.cons_append,ixS_cons,ixS_cons,h1,h2,ha]
  constructor
  ·rw [List.length_cons,List.range_succ_eq_map]
   rfl
  ·rw [List.map_map]
   refine List.map_congr_left fun i _=> ?_
   show A.length+i+1=(a::A).length+i
   rw [List.length_cons]
   omega
theorem SCh.sum:∀ {l:List (Int×Int)} {a b:Int},SCh a l b→b=a+(l.map (·.2)).sum
 | [],a,b,h=>by
  have h:a=b:=h
  subst h
  simp
 | x::l,a,b,h=>by
  have:=SCh.sum h.2.2
  rw [List.map_cons,List.sum_cons]
  omega
theorem SCh.uniq:∀ {l m:List (Int×Int)} {a b c:Int},SCh a l b→SCh a m c→l.map (·.2)=m.map (·.2)→l=m∧b=c
 | [],[],a,b,c,h,k,_=>by
  have h:a=b:=h
  have k:a=c:=k
  exact ⟨rfl,by omega⟩
 | [],y::m,_,_,_,_,_,e=>by cases e
 | x::l,[],_,_,_,_,_,e=>by cases e
 | x::l,y::m,a,b,c,h,k,e=>by
  obtain ⟨h1,h2,h3⟩:=h
  obtain ⟨k1,k2,k3⟩:=k
  rw [List.map_cons,List.map_cons,List.cons.injEq]at e
  obtain ⟨e1,e2⟩:=e
  rw [←e1]at k3
  obtain ⟨i1,i2⟩:=SCh.uniq h3 k3 e2
  exact ⟨by rw [i1,show x=y from Prod.ext (h1.trans k1.symm) e1],i2⟩
theorem sum_nn:∀ {l:List Int},(∀n∈l,0≤n)→0≤l.sum
 | [],_=>by simp
 | x::l,h=>by
  have h1:=h x List.mem_cons_self
  have h2:=sum_nn fun n hn=>h n (List.mem_cons_of_mem _ hn)
  rw [List.sum_cons]
  omega
theorem filter_nn {l:List Int} (f:Int→Bool) (h:∀n∈l,0≤n):0≤(l.filter f).sum:=sum_nn fun n hn=>h n (List.mem_filter.1 hn).1
section
variable {c0 c1 c2 c3 : Int} {sn : Bool} {G H : GraphD}
theorem lwRun_some:∀(l:List Int) (s:LwS),(∀n∈l,0≤n)→s.top+(l.filter (smallB c0 c1 c2 c3)).sum≤halfA c0 c1 c2 c3 sn+halfS c0 c1 c2 c3→s.u+(l.filter fun n=> !smallB c0 c1 c2 c3 n).sum≤largeS c0 c1 c2 c3→∃t,lwRun c0 c1 c2 c3 sn s l=some t
 | [],s,_,_,_=>⟨s,rfl⟩
 | n::l,s,h0,h1,h2=>by
  have hn:=h0 n List.mem_cons_self
  have hl:=fun m hm=>h0 m (List.mem_cons_of_mem _ hm)
  have f1:=filter_nn (smallB c0 c1 c2 c3) hl
  have f2:=filter_nn (fun n=> !smallB c0 c1 c2 c3 n) hl
  rw [List.filter_cons]at h1 h2
  cases hb:smallB c0 c1 c2 c3 n with
  | true=>
   rw [hb]at h1 h2
   rw [if_pos rfl,List.sum_cons]at h1
   rw [if_neg (by decide)]at h2
   obtain ⟨t,ht⟩:=lwRun_some l ⟨s.top+n,s.u,s.pl++ [s.top],s.tb⟩ hl (by simp only;omega) h2
   refine ⟨t,?_⟩
   simp only [lwRun,lwStep,hb,if_true]
   rw [if_neg (by omega)]
   exact ht
  | false=>
   rw [hb]at h1 h2
   rw [if_neg (by decide)]at h1
   rw [if_pos (by decide),List.sum_cons]at h2
   obtain ⟨t,ht⟩:=lwRun_some l ⟨s.top,s.u+n,s.pl++ [largeA c0 c1 c2 c3+s.u],s.tb++ [(largeA c0 c1 c2 c3+s.u,n)]⟩ hl h1 (by simp only;omega)
   refine ⟨t,?_⟩
   simp only [lwRun,lwStep,hb,if_false,Bool.false_eq_true]
   rw [if_neg (by omega)]
   exact ht
def szN (x:NodV):Int:=wrap64 (wrap64 (1+x.2.1.length)+x.2.2.length)
theorem szN_node (x:NodeD):szN (nodeV x)=sizeN x:=by simp only [szN,sizeN,nodeV]
theorem szs_turned (h:H.ns.map nodeV=canN (valN G) (ordL c0 c1 c2 c3 G)):szs H=(szs G).filter (smallB c0 c1 c2 c3)++(szs G).filter fun n=> !smallB c0 c1 c2 c3 n:=by
 have e:szs H=(H.ns.map nodeV).map szN:=by
  simp only [szs,List.map_map,Function.comp_def,szN_node]
 have e2:(canN (valN G) (ordL c0 c1 c2 c3 G)).map szN=(ordL c0 c1 c2 c3 G).map fun i=>(szs G).getD i 0:=by
  simp only [canN,List.map_map,Function.comp_def]
  refine List.map_congr_left fun i hi=> ?_
  have hi':=ord_mem.1 hi
  rw [szs_get hi',←szN_node]
  unfold turnV
  rw [valN_get hi']
  simp only [szN,List.length_map]
 rw [e,h,e2,ordL,List.map_append,ixS_filter,ixS_filter]
theorem flt_tt {α:Type} {f:α→Bool} (l:List α):(l.filter f).filter f=l.filter f:=List.filter_eq_self.2 fun x hx=>(List.mem_filter.1 hx).2
theorem flt_tf {α:Type} {f:α→Bool} (l:List α):(l.filter fun x=> !f x).filter f= []:=List.filter_eq_nil_iff.2 fun x hx=>by
 have:=(List.mem_filter.1 hx).2
 simpa using this
theorem flt_ft {α:Type} {f:α→Bool} (l:List α):((l.filter f).filter fun x=> !f x)= []:=List.filter_eq_nil_iff.2 fun x hx=>by
 have:=(List.mem_filter.1 hx).2
 simpa using this
theorem spI_snd {f:Int→Bool} {ps ns:List Int}:((ixS f ns).map (spI ps ns)).map (·.2)=ns.filter f:=by
 rw [List.map_map,←ixS_filter]
 rfl
theorem spI_fst {f:Int→Bool} {ps ns:List Int}:((ixS f ns).map (spI ps ns)).map (·.1)=(ixS f ns).map fun i=>ps.getD i 0:=by
 rw [List.map_map]
 rfl
structure TwoL (c0 c1 c2 c3:Int) (sn:Bool) (G H:GraphD):Prop where
 g:LayOk c0 c1 c2 c3 sn G
 h:LayOk c0 c1 c2 c3 sn H
 e:layE c0 c1 c2 c3 sn H=0
 ns:H.ns.map nodeV=canN (valN G) (ordL c0 c1 c2 c3 G)
 rs:H.rs=canR G.rs (ordL c0 c1 c2 c3 G)
theorem TwoL.of (he:layE c0 c1 c2 c3 sn G=0) (hR:rightG H=true) (h1:H.ns.map nodeV=canN (valN G) (ordL c0 c1 c2 c3 G)) (h2:H.rs=canR G.rs (ordL c0 c1 c2 c3 G)):TwoL c0 c1 c2 c3 sn G H:=by
 have L:=LayOk.of he
 have hz:=szs_turned h1
 have t1:=L.j.sm.sum
 have t2:=L.j.lg.sum
 rw [spI_snd]at t1
 rw [L.j.tb,spI_snd]at t2
 have i1:=L.inv.hi
 have i2:=L.inv.u1
 have hn:∀n∈szs H,0≤n:=fun n hn=>by
  obtain ⟨x,hx,rfl⟩:=List.mem_map.1 hn
  have:=(size_right hR hx).1
  omega
 obtain ⟨t,ht⟩:=lwRun_some (sn:=sn) (szs H) (lwS0 c0 c1 c2 c3 sn) hn (by
  rw [hz,List.filter_append,flt_tt,flt_tf,List.append_nil]
  simp only [lwS0]
  omega) (by
  rw [hz,List.filter_append,flt_ft,flt_tt,List.nil_append]
  simp only [lwS0]
  omega)
 have hrl:H.rs.length=G.rs.length:=by rw [h2];simp [canR]
 have e:layE c0 c1 c2 c3 sn H=0:=by
  unfold layE
  have:=L.slots
  rw [if_neg (by simp [L.cfg]),if_neg (by simp [hR]),if_neg (by omega),show lwAll c0 c1 c2 c3 sn H=some t from ht]
 exact ⟨L,LayOk.of e,e,h1,h2⟩
theorem TwoL.zz (T:TwoL c0 c1 c2 c3 sn G H):szs H=(szs G).filter (smallB c0 c1 c2 c3)++(szs G).filter fun n=> !smallB c0 c1 c2 c3 n:=szs_turned T.ns
theorem TwoL.len (T:TwoL c0 c1 c2 c3 sn G H):H.ns.length=G.ns.length:=by
 have:=congrArg List.length T.ns
 rw [List.length_map]at this
 rw [this,canN,List.length_map,ord_len]
theorem TwoL.places (T:TwoL c0 c1 c2 c3 sn G H):(layS c0 c1 c2 c3 sn H).top=(layS c0 c1 c2 c3 sn G).top∧(layS c0 c1 c2 c3 sn H).u=(layS c0 c1 c2 c3 sn G).u∧(layS c0 c1 c2 c3 sn H).tb=(layS c0 c1 c2 c3 sn G).tb∧(layS c0 c1 c2 c3 sn H).pl=(ordL c0 c1 c2 c3 G).map (plc c0 c1 c2 c3 sn G):=by
 have hz:=T.zz
 obtain ⟨a1,a2⟩:=SCh.uniq T.h.j.sm T.g.j.sm (by rw [spI_snd,spI_snd,hz,List.filter_append,flt_tt,flt_tf,List.append_nil])
 obtain ⟨b1,b2⟩:=SCh.uniq T.h.j.lg T.g.j.lg (by rw [T.h.j.tb,T.g.j.tb,spI_snd,spI_snd,hz,List.filter_append,flt_ft,flt_tt,List.nil_append])
 refine ⟨a2,by omega,b1,?_⟩
 have c1':=congrArg (List.map (·.1)) a1
 have d1:=congrArg (List.map (·.1)) b1
 rw [T.h.j.tb,T.g.j.tb]at d1
 rw [spI_fst,spI_fst]at c1' d1
 obtain ⟨e1,e2⟩:=ixS_two (f:=smallB c0 c1 c2 c3) (B:=(szs G).filter fun n=> !smallB c0 c1 c2 c3 n) (fun x hx=>by simpa using (List.mem_filter.1 hx).2) ((szs G).filter (smallB c0 c1 c2 c3)) (fun x hx=>(List.mem_filter.1 hx).2)
 rw [←hz]at e1 e2
 have e3:ordL c0 c1 c2 c3 H=List.range H.ns.length:=by
  rw [←szs_len,hz,ordL,e1,e2,List.length_append,List.range_add]
 have e4:(ordL c0 c1 c2 c3 H).map (fun i=>(layS c0 c1 c2 c3 sn H).pl.getD i 0)=(ordL c0 c1 c2 c3 G).map (plc c0 c1 c2 c3 sn G):=by
  rw [ordL,List.map_append,c1',d1,ordL,List.map_append]
  rfl
 rw [←e4,e3]
 refine list_ext 0 (by rw [List.length_map,List.length_range,T.h.len]) fun i hi=> ?_
 rw [map_getD (d:=0) (by rw [List.length_range,←T.h.len];exact hi)]
 rw [T.h.len]at hi
 simp [List.getD_eq_getElem?_getD,hi]
theorem TwoL.word (T:TwoL c0 c1 c2 c3 sn G H) {v:Int×Int} (hv:okV G.ns.length v=true):wordV (layS c0 c1 c2 c3 sn H).pl (turned (ordZ (ordL c0 c1 c2 c3 G)) v)=wordV (layS c0 c1 c2 c3 sn G).pl v:=by
 rw [T.places.2.2.2]
 unfold wordV turned
 by_cases h2:v.1=2
 ·have h3:=okV_ref2 hv h2
  obtain ⟨j,hj,e1,e2⟩:=ord_place (o:=ordL c0 c1 c2 c3 G) ord_nodup h3.1 (ord_mem.2 (by omega))
  rw [if_pos h2,if_pos h2,if_pos rfl,e1]
  show encW 2 (List.getD _ ((j:Int)).toNat 0)=_
  rw [Int.toNat_natCast,map_getD (d:=0) hj,e2]
  rfl
 ·rw [if_neg h2,if_neg h2,if_neg h2]
theorem TwoL.node (T:TwoL c0 c1 c2 c3 sn G H) {k:Nat} (hk:k < G.ns.length):nodeWs (layS c0 c1 c2 c3 sn H).pl (H.ns.getD k default)=nodeWs (layS c0 c1 c2 c3 sn G).pl (G.ns.getD ((ordL c0 c1 c2 c3 G).getD k 0) default)∧plc c0 c1 c2 c3 sn H k=plc c0 c1 c2 c3 sn G ((ordL c0 c1 c2 c3 G).getD k 0)∧(ordL c0 c1 c2 c3 G).getD k 0 < G.ns.length:=by
 have hk2:k < (ordL c0 c1 c2 c3 G).length:=by rw [ord_len];exact hk
 have hm:(ordL c0 c1 c2 c3 G).getD k 0 < G.ns.length:=ord_mem.1 (getD_mem' hk2)
 refine ⟨?_,?_,hm⟩
 ·have h1:=congrArg (fun l=>l.getD k (0,[],[])) T.ns
  rw [map_getD (d:=default) (by rw [T.len];exact hk),canN,map_getD (d:=0) hk2]at h1
  unfold turnV at h1
  rw [valN_get hm]at h1
  simp only [nodeV,Prod.mk.injEq]at h1
  obtain ⟨a,b,c⟩:=h1
  unfold nodeWs headN
  rw [a,b,c,List.length_map,List.map_map]
  congr 2
  refine List.map_congr_left fun v hv=> ?_
  exact T.word ((T.g.ok hm).2 v hv)
 ·unfold plc
  rw [T.places.2.2.2,map_getD (d:=0) hk2]
  rfl
theorem TwoL.ws (T:TwoL c0 c1 c2 c3 sn G H):lwWs c0 c1 c2 c3 sn H=lwWs c0 c1 c2 c3 sn G:=by
 refine list_ext 0 (by rw [lwWs_len,lwWs_len]) fun q hq=> ?_
 by_cases hc:∃k,k < G.ns.length∧plc c0 c1 c2 c3 sn H k≤q∧(q:Int) < plc c0 c1 c2 c3 sn H k+(szs H).getD k 0
 ·obtain ⟨k,hk,h1,h2⟩:=hc
  obtain ⟨n1,n2,n3⟩:=T.node hk
  have hk2:k < H.ns.length:=by rw [T.len];exact hk
  have hl:=T.h.nlen hk2
  have w1:=T.h.words hk2 (j:=(q - plc c0 c1 c2 c3 sn H k).toNat) (by omega)
  have w2:=T.g.words n3 (j:=(q - plc c0 c1 c2 c3 sn H k).toNat) (by rw [←n1];omega)
  rw [←n1,←n2,←w1]at w2
  unfold wdZ at w2
  rw [show (plc c0 c1 c2 c3 sn H k+((q - plc c0 c1 c2 c3 sn H k).toNat:Int)).toNat=q by omega]at w2
  exact w2.symm
 ·have hout : ∀ (K : GraphD) (L : LayOk c0 c1 c2 c3 sn K), (∀ k, k < K.ns.length → ¬ (plc c0 c1 c2 c3 sn K k ≤ q ∧ (q : Int) < plc c0 c1 c2 c3 sn K k + ((nodeWs (layS c0 c1 c2 c3 sn K).pl (K.ns.getD k default)).length : Int))) → (lwWs c0 c1 c2 c3 sn K).getD q 0 = (List.replicate (wordsZ c0 c1 c2 c3).toNat 0).getD q 0 := fun K L hn => by
   refine lwW_out _ _ _ _ L.inB fun x hx=> ?_
   obtain ⟨i,hi,rfl⟩:=List.getElem_of_mem hx
   rw [lzip_getElem hi]
   have hi':i < K.ns.length:=by simp at hi;omega
   have h1:=hn i hi'
   have h2:=(L.at_ hi').1
   unfold plc at h1 h2
   show ¬(((layS c0 c1 c2 c3 sn K).pl.getD i 0).toNat≤q∧q < ((layS c0 c1 c2 c3 sn K).pl.getD i 0).toNat+(nodeWs (layS c0 c1 c2 c3 sn K).pl (K.ns.getD i default)).length)
   omega
  rw [hout H T.h fun k hk=>by
   rw [T.h.nlen hk]
   exact fun h=>hc ⟨k,by rw [←T.len];exact hk,h⟩,hout G T.g fun i hi h=>by
   obtain ⟨k,hk,e⟩:=List.getElem_of_mem (ord_mem.2 hi:i∈ordL c0 c1 c2 c3 G)
   have hk':k < G.ns.length:=by rw [←ord_len (c0:=c0) (c1:=c1) (c2:=c2) (c3:=c3)];exact hk
   obtain ⟨n1,n2,n3⟩:=T.node hk'
   rw [getD_get hk,e]at n1 n2
   have hl:=T.h.nlen (show k < H.ns.length by rw [T.len];exact hk')
   rw [←n1,←n2,hl]at h
   exact hc ⟨k,hk',h⟩]
theorem TwoL.same (T:TwoL c0 c1 c2 c3 sn G H) (he:layE c0 c1 c2 c3 sn G=0):lwSt c0 c1 c2 c3 sn H=lwSt c0 c1 c2 c3 sn G:=by
 have hs:lwSl (layS c0 c1 c2 c3 sn H).pl H.rs c2.toNat H.rs.length=lwSl (layS c0 c1 c2 c3 sn G).pl G.rs c2.toNat G.rs.length:=by
  have hrl:H.rs.length=G.rs.length:=by rw [T.rs];simp [canR]
  unfold lwSl
  rw [List.take_length,List.take_length,hrl]
  congr 1
  rw [T.rs,canR,List.map_map]
  refine List.map_congr_left fun v hv=> ?_
  show (true,(0:Int),wordV (layS c0 c1 c2 c3 sn H).pl (turned (ordZ (ordL c0 c1 c2 c3 G)) v))=_
  rw [T.word ((right_parts T.g.right).2 v hv)]
 obtain ⟨p1,p2,p3, -⟩:=T.places
 rw [lwSt_eq T.e,lwSt_eq he,T.ws,hs,p1,p2,p3]
end
theorem lword_any (L:Nat) (A:Option Addr) (n cap:Nat) (pl:List Int) (k x:Int) (W:World) (hn:pl.length=n) (hL:W.heap[L]?=some (.cells #[.slice A n cap] 38 (0,0))) (hpl:IntsAt W A pl) (hx:k=2→0≤x∧x < n):
  Calls Tryz.prog 40 #[.agg #[.int .i64 k,.int .i64 x],.pointer (some ⟨L,0,none⟩)] W fun e w'=>e= .returned (.int .u64 (wordV pl (k,x)))∧Ext W w':=by
 subst hn
 have hx0:=(Ext.refl W).alloc (.cells #[.int .i64 k,.int .i64 x] 71)
 have hH:=pers_new W #[.int .i64 k,.int .i64 x] 71 _ rfl
 have hLt:=lt_of_heap hL
 have hL2:=(hx0.block hLt).trans hL
 have k1:=(cells_of hL2).1
 have k2:=(cells_of hH.here).1
 have f2:=(cells_of hH.here).2
 have HX:=zH hx0
 by_cases h2:k=2
 ·subst h2
  have hxb:=hx rfl
  obtain ⟨i,rfl⟩:=Int.eq_ofNat_of_zero_le hxb.1
  obtain ⟨b,off,rfl,hc⟩:=hpl.get (by omega)
  have c1:=hx0.cell (ints_cell hc (k:=i) (by omega))
  have e1:wordV pl (2,(i:Int))=encW 2 (pl.getD i 0):=by simp [wordV]
  rw [e1]
  have HX1:=zH ((Ext.refl W).alloc (.cells #[.int .i64 2,.int .i64 (pl.getD i 0)] 71))
  have ib0:(0:Int)≤(i:Int):=by omega
  have ib1:(i:Int) < (pl.length:Int):=by omega
  clear hc e1 hx hpl hL hx0
  generalize pl.getD i 0=p at*
  go_enter Tryz.func40,Tryz.ntmps40
  go_wp2_with fail
  refine (enc_any 2 p _).mono ?_
  rintro e w1 ⟨rfl,hx⟩
  replace HX1:=zH (HX1.out.trans hx)
  clear hx
  go_wp2_with fail
  go_ret
  exact ⟨rfl,HX1.out⟩
 ·have d1:(k==2)=false:=by simpa using h2
  have e1:wordV pl (k,x)=encW k x:=by simp [wordV,h2]
  rw [e1]
  clear hx hpl hL hx0 h2 e1 hL2 k1
  go_enter Tryz.func40,Tryz.ntmps40
  go_wp2_with fail
  refine (enc_any k x _).mono ?_
  rintro e w1 ⟨rfl,hx⟩
  replace HX:=zH (HX.out.trans hx)
  clear hx
  go_wp2_with fail
  go_ret
  exact ⟨rfl,HX.out⟩
end Go.Proofs.YtphpppjfogpohaaGreat
