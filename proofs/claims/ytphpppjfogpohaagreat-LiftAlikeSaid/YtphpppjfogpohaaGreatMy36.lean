/- Merged by program (merge.py) out of: RchB, RchC, GraW, GraX, GraZ, GraPl, GraMo, OwnO. -/
import Derived.Test.YtphpppjfogpohaaGreatMy0
import Derived.OwnWalk
import Derived.Test.YtphpppjfogpohaaGreatMy35
import Derived.Test.YtphpppjfogpohaaGreatMy7
set_option linter.unusedSimpArgs false
set_option linter.unusedVariables false
set_option maxRecDepth 100000
set_option maxHeartbeats 16000000
namespace Go.Proofs.YtphpppjfogpohaaGreat
open Go.RowKit Go.Shelf
theorem eT {α:Type} {e:TypeId} {n:Nat} {f:α→List Value} {w w':World} {B:Nat} {v:Value} {xs:List α} (h:Own e n f w B v xs) {g:Nat} {cs:Array Value} {t:TypeId} {r:Nat×Nat} (hb:w.heap[g]?=some (.cells cs t r)) (hg:w.grownBy w' v.ownBlock) (hne:t≠e):w'.heap[g]?=some (.cells cs t r):=
 (hg.block g (aA hb) (h.ne_block hb hne)).trans hb
theorem gC (l:List Nat) (x:Nat):ordZ l++ [(x:Int)]=ordZ (l++ [x]):=by simp [ordZ]
structure RchG (G:GraphD) (lim blk:Nat):Prop where
 at_:GraphOk G
 n:G.ns.length≤1000
 r:G.rs.length≤1000
 f:∀x∈G.ns,x.fields.length≤4096∧x.raws.length≤4096
 pg:PgOk (G.ns.map aX) G.rs
 bk:1≤blk∧blk≤9223372036854775807
 lm:1≤lim∧lim≤9223372036854775807
def envG (G:GraphD) (lim blk:Nat):PlE:=envP (G.ns.map aX) lim blk
def TopOk (p:PlD):Prop:=p.top≤9000*p.small.length∧p.pile.length≤p.large.length∧∀x∈p.begins,x≤p.top
section
variable {G : GraphD} {lim blk : Nat} {p : PlD} {mk : Bool} {v : Int × Int}
theorem tL (i:Nat) (h:i < G.ns.length):(G.ns.map aX).getD i (0,[],[])=aX (G.ns.getD i default):=eF h
theorem yH (i:Nat) (h:i < G.ns.length):(envG G lim blk).sz i=1+(G.ns.getD i default).fields.length+(G.ns.getD i default).raws.length:=by
 simp only [envG,envP,tL i h];rfl
theorem iw (i:Nat) (h:i < G.ns.length):(envG G lim blk).fs i=(G.ns.getD i default).fields:=by
 simp only [envG,envP,tL i h];rfl
theorem bQ:(envG G lim blk).n=G.ns.length:=by simp [envG,envP]
theorem RchG.sz (h:RchG G lim blk) (i:Nat) (hi:i < G.ns.length):(envG G lim blk).sz i≤9000∧gg (G.ns.getD i default)=((envG G lim blk).sz i:Nat):=by
 rw [yH i hi]
 have:=h.f _ (aH (d:=default) hi)
 refine ⟨by omega,?_⟩
 unfold gg wrap64
 omega
theorem RchG.env (h:RchG G lim blk):(envG G lim blk).Ok:=h.pg.env
theorem TopOk.meet (h:RchG G lim blk) (hv:v.1=2→0≤v.2∧v.2 < G.ns.length) (ht:TopOk p):TopOk (meetP (envG G lim blk) mk p v):=by
 unfold meetP
 split
 ·rename_i hf
  have h1:=hv (AH.1 hf).1
  have h2:=(h.sz v.2.toNat oM).1
  split
  ·obtain ⟨t1,t2,t3⟩:=ht
   refine ⟨t1,?_,t3⟩
   simp only [PlD.addL,List.length_append,List.length_singleton]
   omega
  ·obtain ⟨t1,t2,t3⟩:=ht
   refine ⟨?_,t2,fun x hx=> ?_⟩
   ·simp only [PlD.addS,List.length_append,List.length_singleton]
    omega
   ·simp only [PlD.addS]at hx⊢
    rcases List.mem_append.1 hx with hx | hx
    ·have:=t3 x hx;omega
    ·simp at hx;omega
 ·exact ht
end
section
variable {G : GraphD} {lim blk : Nat} {p : PlD} {mk : Bool}
theorem TopOk.deep (hG:RchG G lim blk):∀(f:Nat) (p:PlD) (l:List (Int×Int)),TopOk p→av G.ns.length l→TopOk (deepP (envG G lim blk) mk f p l):=by
 intro f
 induction f with
 | zero=>exact fun p l h _=>h
 | succ f ih=>
  intro p l h hl
  refine ev (f:=oneP (envG G lim blk) mk f) (I:=TopOk) l p (fun v hv q hq=> ?_) h
  have hm:=hq.meet (mk:=mk) hG (hl v hv)
  by_cases hn:newP (envG G lim blk) q v=true
  ·rw [oneP,if_pos hn]
   refine ih _ _ hm ?_
   have hlt:=lW (by rw [bQ];exact hl v hv) hn
   have:=hG.env _ hlt
   rw [bQ]at this
   exact this
  ·rw [oneP,if_neg hn]
   exact hm
theorem TopOk.all (hG:RchG G lim blk) (h:TopOk p) {l:List (Int×Int)} (hl:av G.ns.length l):TopOk (allP (envG G lim blk) mk p l):=
 ev (f:=meetP (envG G lim blk) mk) (I:=TopOk) l p (fun v hv q hq=>hq.meet hG (hl v hv)) h
end
structure Perm (o:List Int) (n:Nat):Prop where
 len:o.length=n
 in_:∀i,i < n→0≤o.getD i 0∧o.getD i 0 < n
 pl:∀i,i < n→aY o (o.getD i 0)=i
section
variable {o : List Int} {n : Nat}
theorem qf {v:Int×Int} (hv:okV n v=true):v.1=2→0≤v.2∧v.2 < n:=by
 intro h2
 simp [okV,cv,h2]at hv;omega
end
section
variable {G H : GraphD} {o : List Int}
theorem fV (hR:aR G=true):(∀x∈G.ns,okN x=true∧∀v∈x.fields,okV G.ns.length v=true)∧∀v∈G.rs,okV G.ns.length v=true:=by
 simp only [aR,Bool.and_eq_true,List.all_eq_true]at hR
 exact hR
end
end Go.Proofs.YtphpppjfogpohaaGreat
namespace Go.Proofs.YtphpppjfogpohaaGreat
open Go.RowKit Go.Shelf Go.Maps
def OwnO (w:World) (B:Nat) (v:Value) (xs:List Int):Prop:=
 (v= .slice none 0 0∧xs= [])∨∃g off cap cur,v= .slice (some ⟨g,off,none⟩) xs.length cap∧B≤g∧w.heap[g]?=some (.cells cur 3 (0,0))∧xs.length≤cap∧cap≤maxLen∧off+cap≤cur.size∧(cur.toList.drop off).take xs.length=xs.flatMap intC
section
variable {w w' : World} {B : Nat} {v : Value} {xs : List Int}
theorem OwnO.nil (w:World) (B:Nat):OwnO w B (.slice none 0 0) []:= .inl ⟨rfl,rfl⟩
theorem OwnO.of (h:Own 3 1 intC w B v xs):OwnO w B v xs:=by
 obtain ⟨h1,h2⟩:=h
 rcases h2 with ⟨rfl,h0⟩ | ⟨g,cap,cur,rfl,hb,hg,hc,hcm,hcs,ht⟩
 ·exact .inl ⟨rfl,List.eq_nil_of_length_eq_zero h0⟩
 ·exact .inr ⟨g,0,cap,cur,rfl,hb,hg,hc,hcm,by omega,by simpa using ht⟩
theorem OwnO.lt (h:OwnO w B v xs) {g:Nat} (hv:v.ownBlock=some g):B≤g∧g < w.heap.size:=by
 rcases h with ⟨rfl,_⟩ | ⟨g',off,cap,cur,rfl,hb,hg,_⟩
 ·cases hv
 ·injection hv with hv
  simp only at hv
  subst hv
  exact ⟨hb,aA hg⟩
theorem OwnO.same (h:OwnO w B v xs) (hs:∀g,v.ownBlock=some g→w'.heap[g]?=w.heap[g]?):OwnO w' B v xs:=by
 rcases h with h | ⟨g,off,cap,cur,rfl,hb,hg,r⟩
 ·exact .inl h
 ·exact .inr ⟨g,off,cap,cur,rfl,hb,(hs g rfl).trans hg,r⟩
theorem OwnO.ext (h:OwnO w B v xs) (hx:Ext w w'):OwnO w' B v xs:=h.same fun g hv=>hx.block (h.lt hv).2
theorem OwnO.kept {row:Option Nat} (h:OwnO w B v xs) (hg:w.grownBy w' row) (hne:∀g,v.ownBlock=some g→some g≠row):OwnO w' B v xs:=h.same fun g hv=>hg.block g (h.lt hv).2 (hne g hv)
theorem OwnO.setNe (h:OwnO w B v xs) {b i:Nat} {u:Value} (hne:v.ownBlock≠some b):OwnO (w.setCell ⟨b,i,none⟩ u) B v xs:=h.same fun g hv=>Below.heap_setCell w ⟨b,i,none⟩ u g (fun e=>hne (by rw [hv,e]))
theorem OwnO.setOther (h:OwnO w B v xs) {b i:Nat} {u:Value} {cs:Array Value} {t:TypeId} {r:Nat×Nat} (hb:w.heap[b]?=some (.cells cs t r)) (hne:t≠3):OwnO (w.setCell ⟨b,i,none⟩ u) B v xs:=h.setNe fun hv=>by
 rcases h with ⟨rfl,_⟩ | ⟨g,off,cap,cur,rfl,_,hg,_⟩
 ·cases hv
 ·injection hv with hv
  simp only at hv
  rw [hv,hb]at hg
  injection hg with hg
  injection hg with _ hg _
  exact hne hg
theorem OwnO.form (h:OwnO w B v xs):∃A cap,v= .slice A xs.length cap∧xs.length≤cap∧(∀k,k < xs.length→∃g off,A=some ⟨g,off,none⟩∧w.cell? ⟨g,off+k,none⟩=some (.int .i64 (xs.getD k 0))):=by
 rcases h with ⟨rfl,rfl⟩ | ⟨g,off,cap,cur,rfl,hb,hg,hc,hcm,hcs,ht⟩
 ·exact ⟨none,0,rfl,by simp,fun k hk=>by simp at hk⟩
 ·refine ⟨_,cap,rfl,hc,fun k hk=>⟨g,off,rfl,?_⟩⟩
  have h1:cur.toList[off+k]?=some (.int .i64 (xs.getD k 0)):=by
   have h2:((cur.toList.drop off).take xs.length)[k]?=(xs.flatMap intC)[k]?:=by rw [ht]
   rw [List.getElem?_take_of_lt hk,List.getElem?_drop]at h2
   rw [h2]
   have:=eZ aP dM (l:=xs) (i:=k) (j:=0) (x:=xs.getD k 0) (u:= .int .i64 (xs.getD k 0)) (by simp [hk]) rfl
   simpa using this
  rw [(aB hg).1 (off+k)]
  simpa using h1
theorem OwnO.tail {A:Option Addr} {n cap:Nat} {x:Int} {g off:Nat} (h:OwnO w B (.slice (some ⟨g,off,none⟩) n cap) (x::xs)):OwnO w B (.slice (if cap=1 then some ⟨g,off,none⟩else some ⟨g,off+1,none⟩) (n - 1) (cap - 1)) xs∧n=xs.length+1∧n≤cap:=by
 rcases h with ⟨h,_⟩ | ⟨g',off',cap',cur,hv,hb,hg,hc,hcm,hcs,ht⟩
 ·cases h
 ·injection hv with e1 e2 e3
  injection e1 with e1
  injection e1 with e1 e4 _
  subst e1 e2 e3 e4
  simp only [List.length_cons]at hc ht⊢
  refine ⟨?_,by first | rfl | trivial,hc⟩
  by_cases hc1:cap=1
  ·have hx0:xs= []:=List.eq_nil_of_length_eq_zero oM
   subst hx0
   rw [if_pos hc1]
   exact .inr ⟨g,off,cap - 1,cur,by simp,hb,hg,by simp,by omega,by omega,by simp⟩
  rw [if_neg hc1]
  refine .inr ⟨g,off+1,cap - 1,cur,by simp,hb,hg,by omega,by omega,by omega,?_⟩
  have h1:cap≤(cur.toList.drop off).length:=by simp;omega
  cases hd:cur.toList.drop off with
  | nil=>rw [hd]at h1;simp at h1;omega
  | cons y ys=>
   have h2:cur.toList.drop (off+1)=ys:=by rw [←List.drop_drop,hd];rfl
   rw [h2]
   rw [hd,List.take_succ_cons]at ht
   simp only [List.flatMap_cons,intC,List.singleton_append]at ht
   injection ht
end
section
variable {P : Program} (w : World)
theorem jV (t ty e:TypeId) (i:TypeInfo) (ht:P.underlying t=some (.slice e)) (hi:P.info? e=some i)
  (g off sLen sCap:Nat) (cur:Array Value) (hg:w.heap[g]?=some (.cells cur e (0,0)))
  (a:Addr) (m c:Nat) (news:List Value) (hl:news.length=m*i.size) (hnews:∀j u,news[j]?=some u→w.cell? (a.add j)=some u) (h1:∀u∈news,u.oneCell'=true)
  (hroom:sLen+m≤sCap) (hfit:off+sLen*i.size+news.length≤cur.size):
  (Builtin.append_ #[t,t] ty #[.slice (some ⟨g,off,none⟩) sLen sCap,.slice (some a) m c]).run P w=
   .ok (.slice (some ⟨g,off,none⟩) (sLen+m) sCap) (w.setRow g (cur.toList.take (off+sLen*i.size)++news++cur.toList.drop (off+sLen*i.size+news.length)).toArray):=by
 have hf:=run_firstCells_some (P:=P) w i.size m a m c news hl hnews
 have hst:=run_storeCells_at P g (off+sLen*i.size) e news 0 cur w hg (by simpa using hfit) h1
 simp only [Nat.add_zero]at hst
 have ha:(⟨g,off,none⟩:Addr).add (sLen*i.size)=⟨g,off+sLen*i.size,none⟩:=by unfold Addr.add;split <;>simp_all
 simp [Builtin.append_,run_underlying ht,sizeOf,typeInfo,hi,Builtin.lenOf,hroom,hf,ha,hst]
end
section
variable {w : World} {B : Nat} {v : Value} {xs : List Int}
theorem oz (ty:TypeId) (h:OwnO w B v xs) (x:Int) (ad:Addr) (c:Nat) (hr:w.cell? (ad.add 0)=some (.int .i64 x)) (hlen:xs.length≤10000000) (hB:B≤w.heap.size):
  ∃v' w',(Builtin.append_ #[38,38] ty #[v,.slice (some ad) 1 c]).run Tryz.prog w= .ok v' w'∧OwnO w' B v' (xs++ [x])∧w.grownBy w' v.ownBlock∧(v'.ownBlock=v.ownBlock∨v'.ownBlock=some w.heap.size):=by
 obtain ⟨i,z,hi,hz,hs,hby,hzs⟩:=cd.inf
 have ht:=cd.und
 have hnews:∀(j:Nat) (u:Value),[Value.int .i64 x][j]?=some u→w.cell? (ad.add j)=some u:=by
  intro j u hj
  cases j with
  | zero=>simp at hj;subst hj;exact hr
  | succ j=>simp at hj
 have h1:∀u∈ [Value.int .i64 x],u.oneCell'=true:=by simp;rfl
 rcases h with ⟨rfl,rfl⟩ | ⟨g,off,cap,cur,rfl,hb,hg,hc,hcm,hcs,htk⟩
 ·have hr':=run_append_own_at (P:=Tryz.prog) w B 38 ty 3 i z 1 8 ht hi hz hs hby hzs dM (.slice none 0 0) 0 [] (World.ownsRow_nil w B 3 1) ad 1 c [.int .i64 x] rfl hnews h1 (by simp [maxLen]) oM hB
  obtain ⟨v',w',h2,h3,h4,h5⟩:=hr'
  refine ⟨v',w',h2,OwnO.of ?_,h4,h5.2⟩
  exact h3
 ·by_cases hroom:xs.length+1≤cap
  ·have hr':=jV (P:=Tryz.prog) w 38 ty 3 i ht hi g off xs.length cap cur hg ad 1 c [.int .i64 x] (by rw [hs];rfl) hnews h1 hroom (by rw [hs];simp;omega)
   rw [hs,Nat.mul_one]at hr'
   refine ⟨_,_,hr',.inr ⟨g,off,cap,_,by simp,hb,setRow_heap w g cur _ 3 _ hg,by simpa using hroom,hcm,?_,?_⟩,⟨rfl,rfl,rfl,by simp,fun k _ hk=>setRow_other w g k _ (fun e=>hk (by simp [Value.ownBlock,e]))⟩,.inl rfl⟩
   ·simp only [List.size_toArray,List.length_append,List.length_take,List.length_drop,Array.length_toList,List.length_singleton]
    omega
   ·simp only [List.length_append,List.length_singleton,List.flatMap_append]
    have hlt:(cur.toList.take (off+xs.length)).length=off+xs.length:=by simp;omega
    rw [List.append_assoc,List.drop_append_of_le_length (by rw [hlt];omega),List.drop_take,show off+xs.length - off=xs.length by omega,htk]
    have hfl:(xs.flatMap intC).length=xs.length:=by have:=cS aP xs;omega
    rw [List.take_append,hfl,List.take_of_length_le oM,show xs.length+1 - xs.length=1 by omega]
    rfl
  ·have holds : ∀ j u, (xs.flatMap intC)[j]? = some u → w.cell? ((⟨g, off, none⟩ : Addr).add j) = some u := by
    intro j u hj
    have ha:(⟨g,off,none⟩:Addr).add j=⟨g,off+j,none⟩:=by unfold Addr.add;split <;>simp_all
    rw [ha,(aB hg).1 (off+j)]
    rw [←htk]at hj
    have hjl:j < xs.length:=by
     have h3:=(List.getElem?_eq_some_iff.1 hj).1
     simp only [List.length_take]at h3
     omega
    rw [List.getElem?_take_of_lt hjl,List.getElem?_drop]at hj
    simpa using hj
   have hfl:(xs.flatMap intC).length=xs.length:=by have:=cS aP xs;omega
   have hr':=run_append_grow (P:=Tryz.prog) w 38 ty 3 i z ht hi hz ⟨g,off,none⟩ xs.length cap (xs.flatMap intC) (by rw [hfl,hs];omega) holds ad 1 c [.int .i64 x] (by rw [hs];rfl) hnews oM oM (by rw [hby];exact growslice_fits oM oM)
   have hge:=grownCap_ge w (xs.length+1) cap 3
   have hcm':grownCap w (xs.length+1) cap 3≤maxLen:=grownCap_le_maxLen w (xs.length+1) cap 3 (by simp [maxLen];omega)
   refine ⟨_,_,hr',OwnO.of ⟨?_,.inr ⟨w.heap.size,_,_,by simp,hB,heap_alloc_new w.drew _,by simpa using hge,hcm',?_,?_⟩⟩,⟨rfl,rfl,rfl,by simp,fun k hk _=>RowKit.Below.heap_alloc w.drew _ k hk⟩,.inr rfl⟩
   ·have:=cS aP (xs++ [x]);omega
   ·simp only [Array.size_append,List.size_toArray,size_zeroCells,hzs,hfl,List.length_singleton]
    omega
   ·simp only [Array.toList_append,List.append_assoc,List.flatMap_append]
    rw [←List.append_assoc,show ((xs++ [x]).length*1)=(xs.flatMap intC++ [x].flatMap intC).length by simp [hfl,intC]]
    exact List.take_left
theorem qg {o:Oper} {a:Act} {K:Act→World→Prop} {Q:Exit→Act→World→Prop} (s y:Operand)
  (ho:o.op= .call {callee:= .builtin .append,args:= #[s,y],argTypes:= #[38,38]}) (hs:a.eval s=v) (h:OwnO w B v xs) (x:Int) (ad:Addr) (c:Nat) (hy:a.eval y= .slice (some ad) 1 c) (hr:w.cell? (ad.add 0)=some (.int .i64 x)) (hlen:xs.length≤10000000) (hB:B≤w.heap.size)
  (hk:∀v' w',OwnO w' B v' (xs++ [x])→w.grownBy w' v.ownBlock→(v'.ownBlock=v.ownBlock∨v'.ownBlock=some w.heap.size)→K (a.put o.dst v') w'):o.wp Tryz.prog a w K Q:=by
 obtain ⟨v',w',hr',h2,h3,h4⟩:=oz o.type h x ad c hr hlen hB
 unfold Oper.wp execOp
 simp only [ho,resolve,invoke,builtin,Sem.run_bind,Sem.run_pure,Result.andThen_ok,List.map_toArray,List.map_cons,List.map_nil,hs,hy,hr']
 exact hk v' w' h2 h3 h4
end
def wX (v:Value):Option (DataW Value×List MemPlace):=some (.held v,[])
theorem wY (w:World):(zeroValue 38).run Tryz.prog w= .ok (.slice none 0 0) w:=by kernel_rfl
def MapV (w:World) (b n:Nat) (f:Int→Value):Prop:=
 ∃D:DataW Value,w.ownsMap Tryz.prog 3 wX b n D∧IsMap D∧∀x,D.atKey (keyI x) (.held (.slice none 0 0))= .held (f x)
section
variable {w w' : World} {b n : Nat} {f : Int → Value}
theorem MapV.made (w:World):MapV (w.alloc (.map #[] 0)) w.heap.size 0 (fun _=> .slice none 0 0):=⟨.map [],World.ownsMap_made _ _ _ _,isMap_empty,fun x=>rfl⟩
theorem MapV.lt (h:MapV w b n f):b < w.heap.size:=by obtain ⟨D,h1,_⟩:=h;exact h1.lt
theorem MapV.kept {row:Option Nat} (h:MapV w b n f) (hg:w.grownBy w' row) (hne:some b≠row):MapV w' b n f:=by
 obtain ⟨D,h1,h2⟩:=h;exact ⟨D,h1.kept hg hne,h2⟩
theorem MapV.same (h:MapV w b n f) (hs:w'.heap[b]?=w.heap[b]?):MapV w' b n f:=by
 obtain ⟨D,⟨es,clock,hb,r⟩,h2⟩:=h
 exact ⟨D,⟨es,clock,hs.trans hb,r⟩,h2⟩
theorem MapV.ext (h:MapV w b n f) (hx:Ext w w'):MapV w' b n f:=h.same (hx.block h.lt)
theorem MapV.setCell (h:MapV w b n f) {a:Addr} (ha:b≠a.block) (u:Value):MapV (w.setCell a u) b n f:=by
 obtain ⟨D,h1,h2⟩:=h;exact ⟨D,h1.setCell ha u,h2⟩
theorem MapV.ne (h:MapV w b n f) {g:Nat} {cs:Array Value} {t:TypeId} {r:Nat×Nat} (hg:w.heap[g]?=some (.cells cs t r)):b≠g:=fun e=>by
 obtain ⟨D,⟨es,clock,hb,_⟩,_⟩:=h
 rw [e,hg]at hb
 cases hb
theorem MapV.look (h:MapV w b n f) {x:Int} (hk:(Lit.int .i64 x).wf=true):(Instr.lookup 200 (.map (some b)) (.int .i64 x) false).run Tryz.prog w= .ok (f x) w:=by
 obtain ⟨D,h1,h2,h3⟩:=h
 obtain ⟨v,ps,hrun,hv⟩:=h1.lookup eB Tryz.underlying200 (wY w) (zd:= .held (.slice none 0 0)) (zp:= []) rfl (keyOf_int_mk Tryz.underlying3 hk)
 have:=h3 x
 unfold keyI at this
 rw [this]at hv
 simp only [wX,Option.some.injEq,Prod.mk.injEq]at hv
 obtain ⟨hv,_⟩:=hv
 injection hv with hv
 rw [hrun,hv]
theorem ef {ops:Array Oper} {rest:List Oper} {o:Oper} {a:Act} {Q:Exit→Act→World→Prop} (hg:o.guard=none) (m x y:Operand) (hop:o.op=Op.mapUpdate 200 m x y) (h:MapV w b n f) (hm:a.eval m= .map (some b)) (hn:n < maxLen) (k:Int) (v:Value) (hx:a.eval x= .int .i64 k) (hv:a.eval y=v) (hk:(Lit.int .i64 k).wf=true)
  (hK:∀w',MapV w' b (n+1) (fun y=>if y=k then v else f y)→w.grownBy w' (some b)→wpList Tryz.prog ops Q rest (a.put o.dst undef) w'):wpList Tryz.prog ops Q (o::rest) a w:=by
 obtain ⟨D,h1,h2,h3⟩:=h
 refine wpList_mapUpdate_own w hg m x y 200 hop 3 38 eB Tryz.underlying200 wX b n D hm h1 hn (.int .i64 k) v (keyI k) hx hv (keyOf_int_mk Tryz.underlying3 hk) (.held v) [] rfl ?_
 intro w' ho hgr
 refine hK w' ⟨_,ho,h2.put _ _,fun y=> ?_⟩ hgr
 by_cases hy:y=k
 ·subst hy
  simp only [if_true]
  exact atKey_put_same h2 (show WideAt.IsKeyLit (keyI y)from trivial) _ _
 ·simp only [if_neg hy]
  have hne:keyI y≠keyI k:=fun e=>hy (by injection e)
  rw [atKey_put_other hne]
  exact h3 y
end
end Go.Proofs.YtphpppjfogpohaaGreat
