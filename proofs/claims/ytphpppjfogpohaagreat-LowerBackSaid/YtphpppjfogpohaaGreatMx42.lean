/- Merged by program (merge.py) out of: LfP, LowP, LfA, LfB. -/
import Derived.Test.YtphpppjfogpohaaGreatMx30
import Derived.Test.YtphpppjfogpohaaGreatMx37
import Derived.Test.YtphpppjfogpohaaGreatMx41
import Derived.Test.YtphpppjfogpohaaGreatMx14
import Derived.Test.YtphpppjfogpohaaGreatMx16
import Derived.Test.YtphpppjfogpohaaGreatMx35
import Derived.Test.YtphpppjfogpohaaGreatMx2
import Derived.Test.YtphpppjfogpohaaGreatMx4
set_option linter.unusedSimpArgs false
set_option linter.unusedVariables false
set_option maxRecDepth 100000
set_option maxHeartbeats 16000000
namespace Go.Proofs.YtphpppjfogpohaaGreat
open Go.RowKit Go.Shelf
def objsL (s:StD):List Int:=smallsL s.c0 s.c1 s.c2 s.c3 s.snd s.ws s.top++s.tb.map (·.1)
noncomputable def chkS (s:StD):Int:=checkZ s.c0 s.c1 s.c2 s.c3 s.snd s.ws s.top s.tb s.fr s.sl
def turnZ (os:List Int) (w:Int):Int×Int:=if decT w=2 then (2,if placeZ os (decX w) < 0 then decX w else placeZ os (decX w))else (decT w,decX w)
def wdZ (ws:List Int) (i:Int):Int:=ws.getD i.toNat 0
def nodeL (ws os:List Int) (at_:Int):NodV:=
 ((headH (some ws) at_).k,(List.range (headH (some ws) at_).f.toNat).map (fun (k:Nat)=>turnZ os (wdZ ws (at_+1+k))),(List.range (headH (some ws) at_).r.toNat).map fun (k:Nat)=>wdZ ws (at_+1+(headH (some ws) at_).f+k))
def usedL (sl:List (Bool×Int×Int)):List Int:=(sl.filter fun x=>x.1).map fun x=>x.2.2
noncomputable def liftV (s:StD):List NodV:=if chkS s=0 then (objsL s).map (nodeL s.ws (objsL s))else []
noncomputable def liftQ (s:StD):List (Int×Int):=if chkS s=0 then (usedL s.sl).map (turnZ (objsL s))else []
noncomputable def liftE (s:StD):Int:=if chkS s=0 then 0 else 4
noncomputable def liftO (s:StD):List Int:=if chkS s=0 then objsL s else []
structure LfOk (s:StD):Prop where
 ok:AllOk s.c0 s.c1 s.c2 s.c3 s.snd s.ws s.top s.tb s.fr s.sl
 nd:(objsL s).Nodup
 head:∀z∈objsL s,headE (some s.ws) z=0
 at_:∀z∈objsL s,0≤z∧z+1+(headH (some s.ws) z).f+(headH (some s.ws) z).r≤s.ws.length
 bd:∀z∈objsL s,(0≤(headH (some s.ws) z).k∧(headH (some s.ws) z).k≤31)∧(0≤(headH (some s.ws) z).f∧(headH (some s.ws) z).f≤4096)∧(0≤(headH (some s.ws) z).r∧(headH (some s.ws) z).r≤4096)
 fld:∀z∈objsL s,∀k:Nat,(k:Int) < (headH (some s.ws) z).f→decE (wdZ s.ws (z+1+k))=0∧(decT (wdZ s.ws (z+1+k))=2→decX (wdZ s.ws (z+1+k))∈objsL s)
 slt:∀w∈usedL s.sl,decE w=0∧(decT w=2→decX w∈objsL s)
theorem head_at {ws:List Int} {z:Int} (h:headE (some ws) z=0):0≤z∧z+hsize (headH (some ws) z)≤ws.length∧hmayB (headH (some ws) z)=true:=by
 have h2:=h
 rw [headH,if_pos h]
 unfold headE at h2
 split at h2
 ·rename_i h0
  split at h2
  ·rename_i h1
   split at h2
   ·cases h2
   ·rename_i h3
    have h4:atA (some ws) z=0:=h0
    simp only [atA]at h4
    split at h4
    ·cases h4
    ·rename_i h5
     have h6:lenA (some ws)=ws.length:=rfl
     have h7:hmayB (decH (rdA (some ws) z).toNat)=true:=by
      unfold hdecB at h1
      rw [Bool.and_eq_true]at h1
      exact h1.2
     exact ⟨by omega,by omega,h7⟩
  ·cases h2
 ·rename_i h0
  exact absurd h2 h0
theorem chain_sorted {l:Option (List Int)} {top:Int} {i:Int} {zs:List Int} (h:Chain l top i zs):zs.Pairwise (· < ·)∧∀z∈zs,i≤z∧z < top:=by
 induction h with
 | nil=>exact ⟨List.Pairwise.nil,by simp⟩
 | @cons i zs h1 h2 h3 h4 ih=>
  obtain ⟨a,b⟩:=ih
  have hs:=(head_size h2).1
  refine ⟨List.pairwise_cons.2 ⟨fun z hz=>by have:=(b z hz).1;omega,a⟩,fun z hz=> ?_⟩
  rcases List.mem_cons.1 hz with rfl | hz
  ·omega
  ·have:=b z hz;omega
theorem led_parts {a n:Int} {xs fs:List (Int×Int)} (h:ledR a n xs fs=true):(xs.map (·.1)).Pairwise (· < ·)∧∀x∈xs,a≤x.1∧x.1 < a+n:=by
 unfold ledR ledB at h
 rw [Bool.and_eq_true,Bool.and_eq_true]at h
 obtain ⟨⟨h1,h2⟩, -⟩:=h
 obtain ⟨h3,h4⟩:=chain_iff.1 h2
 refine ⟨?_,fun x hx=> ?_⟩
 ·refine List.Pairwise.map _ (fun x y hxy=> ?_) (List.Pairwise.and_mem.1 h4)
  obtain ⟨hx,hy,hle⟩:=hxy
  have:=h3 x hx
  simp only [mayB,decide_eq_true_eq]at this
  omega
 ·have h5:=List.all_eq_true.1 h1 x hx
  simp only [withinB,mayB,Bool.and_eq_true,decide_eq_true_eq]at h5
  omega
theorem rd_get {ws:List Int} {i:Int} (h0:0≤i) (h1:i < ws.length):rdA (some ws) i=wdZ ws i:=by
 unfold rdA wdZ
 have:atA (some ws) i=0:=by
  simp only [atA]
  rw [if_neg (by omega)]
 rw [if_pos this]
 rfl
theorem leads_iff {S:Int→Bool} {z:Int} (h:leadsB S z=true):decE z=0∧(decT z=2→S (decX z)=true):=by
 simp only [leadsB,Bool.and_eq_true,decide_eq_true_eq,Bool.or_eq_true,Bool.not_eq_true',beq_eq_false_iff_ne]at h
 exact ⟨h.1,fun e=>h.2.resolve_left fun hn=>hn e⟩
theorem starts_iff {zs:List Int} {tb:List (Int×Int)} {x:Int} (h:startsB zs tb x=true):x∈zs++tb.map (·.1):=by
 simp only [startsB,Bool.or_eq_true,decide_eq_true_eq]at h
 exact List.mem_append.2 h
theorem LfOk.of {s:StD} (h:chkS s=0):LfOk s:=by
 have H:=check_ok (show checkZ s.c0 s.c1 s.c2 s.c3 s.snd s.ws s.top s.tb s.fr s.sl=0 from h)
 have hhd:∀z∈objsL s,headE (some s.ws) z=0:=fun z hz=>H.head hz
 have hat:∀z∈objsL s,0≤z∧z+1+(headH (some s.ws) z).f+(headH (some s.ws) z).r≤s.ws.length:=fun z hz=>by
  obtain ⟨a,b, -⟩:=head_at (hhd z hz)
  have:=(head_sum (hhd z hz)).1
  omega
 refine ⟨H,?_,hhd,hat,fun z hz=> ?_,fun z hz k hk=> ?_,fun w hw=> ?_⟩
 ·obtain ⟨hc, -⟩:=list_chain H.stop
  obtain ⟨c1,c2⟩:=chain_sorted hc
  obtain ⟨l1,l2⟩:=led_parts H.led
  have ht:=H.tp
  simp only [topB,decide_eq_true_eq]at ht
  unfold objsL
  rw [List.nodup_append]
  refine ⟨c1.imp fun hab=>by omega,l1.imp fun hab=>by omega,fun a ha b hb e=> ?_⟩
  subst e
  have h1:=c2 a ha
  obtain ⟨x,hx,e2⟩:=List.mem_map.1 hb
  have h2:=l2 x hx
  have hcf:=H.cfg
  have hcf2:=hcf
  simp only [cfgB,decide_eq_true_eq]at hcf2
  simp only [halfA,halfS,largeA,largeS,hcf,if_true]at h1 h2 ht
  split at h2 <;>split at ht <;>omega
 ·obtain ⟨-, -,hm⟩:=head_at (hhd z hz)
  simp only [hmayB,decide_eq_true_eq]at hm
  omega
 ·have hf:=List.all_eq_true.1 H.field z hz
  rw [fieldsO,List.all_eq_true]at hf
  have hz2:=hat z hz
  obtain ⟨-,hf0, -,hr0, -⟩:=head_sum (hhd z hz)
  have h1:=hf k (List.mem_range.2 (by omega))
  have hpe:placeE (some s.ws) z k false=0:=by
   rw [placeE,if_pos (hhd z hz),if_pos ⟨by omega,by simpa [placeN]using hk⟩]
  have hpz:oplZ (some s.ws) z k false=z+1+k:=by
   rw [oplZ,if_pos hpe]
   simp [placeO]
  have hfz:fldZ (some s.ws) z k false=wdZ s.ws (z+1+k):=by
   rw [fldZ,if_pos hpe,hpz,rd_get (by omega) (by omega)]
  rw [hfz]at h1
  obtain ⟨a,b⟩:=leads_iff h1
  exact ⟨a,fun e=>starts_iff (b e)⟩
 ·unfold usedL at hw
  obtain ⟨x,hx,rfl⟩:=List.mem_map.1 hw
  obtain ⟨hx1,hx2⟩:=List.mem_filter.1 hx
  have h1:=List.all_eq_true.1 H.handle x hx1
  simp only [handleB,hx2,Bool.not_true,Bool.false_or]at h1
  obtain ⟨a,b⟩:=leads_iff h1
  exact ⟨a,fun e=>starts_iff (b e)⟩
theorem objs_len {s:StD} (h:LfOk s):(objsL s).length≤s.ws.length:=by
 have:=nodup_le s.ws.length ((objsL s).map Int.toNat) (by
  refine List.Pairwise.map _ (fun a b hab=> ?_) (List.Pairwise.and_mem.1 h.nd)
  obtain ⟨ha,hb,hne⟩:=hab
  have:=(h.at_ a ha).1
  have:=(h.at_ b hb).1
  omega) (fun i hi=>by
  obtain ⟨z,hz,rfl⟩:=List.mem_map.1 hi
  have h1:=h.at_ z hz
  have h2:=h.bd z hz
  omega)
 simpa using this
structure LwS where
 top:Int
 u:Int
 pl:List Int
 tb:List (Int×Int)
def frL (la ls u:Int):List (Int×Int):=if u < ls then [(la+u,ls - u)]else []
section
variable (c0 c1 c2 c3 : Int) (sn : Bool)
def lwStep (s:LwS) (n:Int):Option LwS:=
 if smallB c0 c1 c2 c3 n then (if halfA c0 c1 c2 c3 sn+halfS c0 c1 c2 c3 < s.top+n then none else some ⟨s.top+n,s.u,s.pl++ [s.top],s.tb⟩)
 else if largeS c0 c1 c2 c3 < s.u+n then none else some ⟨s.top,s.u+n,s.pl++ [largeA c0 c1 c2 c3+s.u],s.tb++ [(largeA c0 c1 c2 c3+s.u,n)]⟩
def lwRun:LwS→List Int→Option LwS
 | s,[]=>some s
 | s,n::l=>match lwStep c0 c1 c2 c3 sn s n with
  | none=>none
  | some t=>lwRun t l
def lwS0:LwS:=⟨halfA c0 c1 c2 c3 sn,0,[],[]⟩
def lwAll (G:GraphD):Option LwS:=lwRun c0 c1 c2 c3 sn (lwS0 c0 c1 c2 c3 sn) (G.ns.map sizeN)
def layE (G:GraphD):Int:=if cfgB c0 c1 c2 c3=false then 1 else if rightG G=false then 4 else if c2 < G.rs.length then 8 else match lwAll c0 c1 c2 c3 sn G with
 | none=>9
 | some _=>0
def layS (G:GraphD):LwS:=if layE c0 c1 c2 c3 sn G=0 then (lwAll c0 c1 c2 c3 sn G).getD ⟨0,0,[],[]⟩else ⟨0,0,[],[]⟩
structure LwI (s:LwS):Prop where
 lo:halfA c0 c1 c2 c3 sn≤s.top
 hi:s.top≤halfA c0 c1 c2 c3 sn+halfS c0 c1 c2 c3
 u0:0≤s.u
 u1:s.u≤largeS c0 c1 c2 c3
 tb:∀x∈s.tb,largeA c0 c1 c2 c3≤x.1∧1≤x.2∧x.1+x.2≤largeA c0 c1 c2 c3+s.u
end
section
variable {c0 c1 c2 c3 : Int} {sn : Bool}
theorem LwI.start (h:cfgB c0 c1 c2 c3=true):LwI c0 c1 c2 c3 sn (lwS0 c0 c1 c2 c3 sn):=by
 have h2:=h
 simp only [cfgB,decide_eq_true_eq]at h2
 refine ⟨Int.le_refl _,?_,Int.le_refl _,?_,by simp [lwS0]⟩ <;>simp only [lwS0,halfS,largeS,h,if_true] <;>omega
theorem LwI.step {s t:LwS} {n:Int} (h:LwI c0 c1 c2 c3 sn s) (hn:1≤n) (hs:lwStep c0 c1 c2 c3 sn s n=some t):LwI c0 c1 c2 c3 sn t:=by
 obtain ⟨a,b,c,d,e⟩:=h
 unfold lwStep at hs
 split at hs
 ·split at hs
  ·cases hs
  ·injection hs with hs
   subst hs
   exact ⟨by simp only;omega,by simp only;omega,c,d,e⟩
 ·split at hs
  ·cases hs
  ·injection hs with hs
   subst hs
   refine ⟨a,b,by simp only;omega,by simp only;omega,fun x hx=> ?_⟩
   simp only [List.mem_append,List.mem_singleton]at hx⊢
   rcases hx with hx | rfl
   ·have:=e x hx;omega
   ·simp only;omega
theorem lwRun_snoc:∀(l:List Int) (s:LwS) (n:Int),lwRun c0 c1 c2 c3 sn s (l++ [n])=(lwRun c0 c1 c2 c3 sn s l).bind fun t=>lwStep c0 c1 c2 c3 sn t n
 | [],s,n=>by
  simp only [List.nil_append,lwRun,Option.bind_some]
  cases lwStep c0 c1 c2 c3 sn s n <;>rfl
 | m::l,s,n=>by
  simp only [List.cons_append,lwRun]
  cases lwStep c0 c1 c2 c3 sn s m with
  | none=>rfl
  | some t=>exact lwRun_snoc l t n
theorem lwRun_none:∀(l m:List Int) (s:LwS),lwRun c0 c1 c2 c3 sn s l=none→lwRun c0 c1 c2 c3 sn s (l++m)=none
 | [],m,s,h=>by cases h
 | n::l,m,s,h=>by
  simp only [List.cons_append,lwRun]at h⊢
  cases hs:lwStep c0 c1 c2 c3 sn s n with
  | none=>rfl
  | some t=>
   rw [hs]at h
   exact lwRun_none l m t h
theorem lwRun_inv:∀(l:List Int) (s t:LwS),LwI c0 c1 c2 c3 sn s→(∀n∈l,1≤n)→lwRun c0 c1 c2 c3 sn s l=some t→LwI c0 c1 c2 c3 sn t∧t.pl.length=s.pl.length+l.length
 | [],s,t,h,_,e=>by
  injection e with e
  subst e
  exact ⟨h,rfl⟩
 | n::l,s,t,h,hn,e=>by
  simp only [lwRun]at e
  cases hs:lwStep c0 c1 c2 c3 sn s n with
  | none=>rw [hs]at e;cases e
  | some v=>
   rw [hs]at e
   have h1:=h.step (hn n List.mem_cons_self) hs
   obtain ⟨a,b⟩:=lwRun_inv l v t h1 (fun m hm=>hn m (List.mem_cons_of_mem _ hm)) e
   refine ⟨a,?_⟩
   rw [b,List.length_cons]
   have:v.pl.length=s.pl.length+1:=by
    unfold lwStep at hs
    split at hs <;>split at hs <;>first | (injection hs with hs;subst hs;simp;done) | cases hs
   omega
end
theorem take_fr {la ls u n:Int} {ys:List (Int×Int)} {p er:Int} (hn:1≤n) (h0:0≤u) (h1:u≤ls) (hla:0≤la∧la≤1000000) (hls:ls≤1000000) (h:TakeRes n (frL la ls u) ys p er):
  (ls < u+n∧ys=frL la ls u∧p=0∧er=9)∨(u+n≤ls∧ys=frL la ls (u+n)∧p=la+u∧er=0):=by
 have hf:u < ls→(takeP n (la+u,ls - u)=true↔u+n≤ls):=fun h2=>by
  simp only [takeP,mayB,Bool.and_eq_true,decide_eq_true_eq]
  omega
 rcases h with ⟨h, -⟩ | ⟨-,h2,h3,h4,h5⟩ | ⟨-,k,hk, -,h3,h4,h5,h6⟩
 ·omega
 ·refine .inl ⟨?_,h3,h4,h5⟩
  by_cases hu:u < ls
  ·have h6:=h2 (la+u,ls - u) (by simp [frL,hu])
   by_cases h7:u+n≤ls
   ·rw [(hf hu).2 h7]at h6;cases h6
   ·omega
  ·omega
 ·by_cases hu:u < ls
  ·simp only [frL,hu,if_true,List.length_singleton]at hk
   obtain rfl:k=0:=by omega
   have e:gt (frL la ls u) 0=(la+u,ls - u):=by simp [frL,hu,gt]
   rw [e]at h3 h5
   refine .inr ⟨(hf hu).1 h3,?_,h5,h6⟩
   rw [h4,takeL,e]
   simp only [frL,hu,if_true]
   by_cases h7:ls - u=n
   ·rw [if_pos h7,if_neg (by omega)];rfl
   ·rw [if_neg h7,if_pos (by have:=(hf hu).1 h3;omega)]
    simp only [List.set_cons_zero,List.cons.injEq,Prod.mk.injEq,and_true]
    omega
  ·simp [frL,hu]at hk
theorem add_tb {la u n:Int} {tb ys:List (Int×Int)} {er:Int} (hn:1≤n) (hla:0≤la∧la≤1000000) (hu:0≤u∧u+n≤1000000) (ht:∀x∈tb,la≤x.1∧1≤x.2∧x.1+x.2≤la+u) (h:AddRes (la+u) n tb ys er):ys=tb++ [(la+u,n)]∧er=0:=by
 have hm:mayB (la+u) n=true:=by simp only [mayB,decide_eq_true_eq];omega
 have hg:tb.any (giveP (la+u) n)=false:=by
  rw [List.any_eq_false]
  intro x hx
  have:=ht x hx
  simp only [giveP,meetsB,hasB,mayB,Bool.and_eq_true,Bool.or_eq_true,decide_eq_true_eq]
  omega
 rcases h with ⟨h, -⟩ | ⟨-,h, -⟩ | ⟨-, -,h1,h2⟩
 ·rw [hm]at h;cases h
 ·rw [hg]at h;cases h
 ·refine ⟨?_,h2⟩
  have hi:addI (la+u) tb=tb.length:=by
   unfold addI
   rw [List.findIdx?_eq_none_iff.2 fun x hx=>by
    have:=ht x hx
    simp only [addP,decide_eq_false_iff_not]
    omega]
   rfl
  rw [h1,addL,hi,List.take_length,List.drop_length]
def wordV (pl:List Int) (v:Int×Int):Int:=if v.1=2 then encW 2 (pl.getD v.2.toNat 0)else encW v.1 v.2
def headN (x:NodeD):Hd:=⟨x.kind,x.fields.length,x.raws.length,false,0⟩
def nodeWs (pl:List Int) (x:NodeD):List Int:=hwordZ (headN x)::(x.fields.map (wordV pl)++x.raws)
def putW:List Int→Nat→List Int→List Int
 | ws,_,[]=>ws
 | ws,a,x::l=>putW (ws.set a x) (a+1) l
theorem putW_len:∀(l ws:List Int) (a:Nat),(putW ws a l).length=ws.length
 | [],ws,a=>rfl
 | x::l,ws,a=>by rw [putW,putW_len l,List.length_set]
theorem putW_snoc:∀(l ws:List Int) (a:Nat) (x:Int),putW ws a (l++ [x])=(putW ws a l).set (a+l.length) x
 | [],ws,a,x=>rfl
 | y::l,ws,a,x=>by
  rw [List.cons_append,putW,putW_snoc l,putW,List.length_cons]
  congr 1
  omega
theorem putW_app:∀(l m ws:List Int) (a:Nat),putW ws a (l++m)=putW (putW ws a l) (a+l.length) m
 | [],m,ws,a=>rfl
 | y::l,m,ws,a=>by
  rw [List.cons_append,putW,putW_app l,putW,List.length_cons]
  congr 1
  omega
theorem putW_get:∀(l ws:List Int) (a i:Nat),a+l.length≤ws.length→(putW ws a l).getD i 0=if a≤i∧i < a+l.length then l.getD (i - a) 0 else ws.getD i 0
 | [],ws,a,i,h=>by
  rw [if_neg (by simp only [List.length_nil];omega)]
  rfl
 | x::l,ws,a,i,h=>by
  rw [List.length_cons]at h⊢
  rw [putW,putW_get l _ _ _ (by rw [List.length_set];omega),getD_set (by omega)]
  by_cases e:a=i
  ·subst e
   rw [if_neg (by omega),if_pos rfl,if_pos (by omega),Nat.sub_self,List.getD_cons_zero]
  ·rw [if_neg e]
   by_cases h2:a+1≤i∧i < a+1+l.length
   ·rw [if_pos h2,if_pos (by omega),show i - a=(i - (a+1))+1 by omega,List.getD_cons_succ]
   ·rw [if_neg h2,if_neg (by omega)]
def lwW (pl:List Int) (xs:List (NodeD×Int)) (ws:List Int):List Int:=xs.foldl (fun ws x=>putW ws x.2.toNat (nodeWs pl x.1)) ws
theorem lwW_len (pl:List Int):∀(xs:List (NodeD×Int)) (ws:List Int),(lwW pl xs ws).length=ws.length
 | [],ws=>rfl
 | x::xs,ws=>by
  show (lwW pl xs (putW ws x.2.toNat (nodeWs pl x.1))).length=_
  rw [lwW_len pl xs,putW_len]
theorem lwW_snoc (pl:List Int) (xs:List (NodeD×Int)) (x:NodeD×Int) (ws:List Int):lwW pl (xs++ [x]) ws=putW (lwW pl xs ws) x.2.toNat (nodeWs pl x.1):=by
 unfold lwW
 rw [List.foldl_append]
 rfl
def lwSl (pl:List Int) (rs:List (Int×Int)) (n k:Nat):List (Bool×Int×Int):=(rs.take k).map (fun v=>(true,0,wordV pl v))++List.replicate (n - k) (false,0,0)
theorem lwSl_len {pl:List Int} {rs:List (Int×Int)} {n k:Nat} (hk:k≤rs.length) (hn:k≤n):(lwSl pl rs n k).length=n:=by
 simp [lwSl]
 omega
theorem lwSl_succ {pl:List Int} {rs:List (Int×Int)} {n k:Nat} (hk:k < rs.length) (hn:k < n):lwSl pl rs n (k+1)=(lwSl pl rs n k).set k (true,0,wordV pl (rs.getD k (0,0))):=by
 have hl:((rs.take k).map fun v=>((true,0,wordV pl v):Bool×Int×Int)).length=k:=by simp;omega
 unfold lwSl
 rw [List.set_append_right _ _ (by omega),hl,Nat.sub_self,show n - k=(n - (k+1))+1 by omega,List.replicate_succ,List.set_cons_zero,List.take_add_one,List.getElem?_eq_getElem hk,Option.toList_some,List.map_append,List.map_singleton,List.append_assoc,List.singleton_append,getD_get hk]
def lwSt (c0 c1 c2 c3:Int) (sn:Bool) (G:GraphD):StD:=
 if layE c0 c1 c2 c3 sn G=0 then ⟨c0,c1,c2,c3,sn,none,lwW (layS c0 c1 c2 c3 sn G).pl (G.ns.zip (layS c0 c1 c2 c3 sn G).pl) (List.replicate (wordsZ c0 c1 c2 c3).toNat 0),0,(layS c0 c1 c2 c3 sn G).top,none,(layS c0 c1 c2 c3 sn G).tb,0,none,frL (largeA c0 c1 c2 c3) (largeS c0 c1 c2 c3) (layS c0 c1 c2 c3 sn G).u,0,none,lwSl (layS c0 c1 c2 c3 sn G).pl G.rs c2.toNat G.rs.length,0⟩
 else ⟨0,0,0,0,false,none,[],0,0,none,[],0,none,[],0,none,[],0⟩
end Go.Proofs.YtphpppjfogpohaaGreat
namespace Go.Proofs.YtphpppjfogpohaaGreat
open Go.RowKit Go.Shelf Go.Maps
theorem MapOf.look0 {w:World} {b n:Nat} {f:Int→Option Int} (h:MapOf w b n f) {x:Int} (hk:(Lit.int .i64 x).wf=true):(Instr.lookup 100 (.map (some b)) (.int .i64 x) false).run Tryz.prog w= .ok (.int .i64 ((f x).getD 0)) w:=by
 obtain ⟨D,h1,h2,h3⟩:=h
 obtain ⟨c,hrun,hat,hwc⟩:=h1.lookup_int intKeyed Tryz.underlying100 Tryz.underlying3 (zeroInt w) (key:= .int .i64 x) (kl:=keyI x) (keyOf_int_mk Tryz.underlying3 hk)
 rw [(h3 x).2]at hat
 injection hat with hat
 injection hat with _ hat
 rw [←hat]at hrun
 exact hrun
theorem decX_bd {w:Int} (h:0≤w∧w < 18446744073709551616) (h2:decT w=2):0≤decX w∧decX w≤1099511627776:=by
 unfold decT at h2
 unfold decX
 split at h2
 ·cases h2
 ·rename_i h3
  rw [if_neg h3]
  split at h2
  ·rename_i h4
   rw [if_pos h4]
   omega
  ·cases h2
theorem lt_of_cell {w:World} {b i:Nat} {v:Value} (h:w.cell? ⟨b,i,none⟩=some v):b < w.heap.size:=by
 rcases Nat.lt_or_ge b w.heap.size with h1 | h1
 ·exact h1
 ·have h2:w.heap[b]?=none:=Array.getElem?_eq_none h1
  unfold World.cell? at h
  simp only at h
  rw [h2]at h
  cases h
theorem lturn_any (f:Int→Option Int) (n mb B:Nat) (w:Int) (W:World) (hw:0≤w∧w < 18446744073709551616) (hm:MapOf W mb n f) (hc:W.cell? ⟨B,0,none⟩=some (.map (some mb))):
  Calls Tryz.prog 58 #[.int .u64 w,.pointer (some ⟨B,0,none⟩)] W fun e w'=>e= .returned (.agg #[.int .i64 (decT w),.int .i64 (if decT w=2 then (f (decX w)).getD 0 else decX w)])∧Ext W w':=by
 have HBX:=zH (pers_new W #[.int .i64 0,.int .i64 0] 71 _ rfl)
 have hx0:=(Ext.refl W).alloc (.cells #[.int .i64 0,.int .i64 0] 71)
 have HX:=zH hx0
 have HM:=zH (hm.ext hx0)
 have HC:=zH (hx0.cell hc)
 have HWS:Hid (W.heap.size≤W.heap.size):=zH (Nat.le_refl _)
 have HD:=zH (fun V=>dec_any w V hw.1 hw.2)
 clear hx0 hm hc
 by_cases h2:decT w=2
 ·have HBD:=zH (decX_bd hw h2)
  rw [if_pos h2]
  replace HD:=zH (by have h:=HD.out;rw [h2]at h;exact h)
  rw [h2]
  generalize decX w=x at*
  generalize decE w=er at*
  have HWF:Hid ((Lit.int .i64 x).wf=true):=zH (by have:=HBD.out;simp [Lit.wf,IntKind.min,IntKind.max,IntKind.signed,IntKind.bits];omega)
  clear h2
  generalize hz:(f x).getD 0=z at*
  have HZ:=zH hz
  clear hz
  go_enter Tryz.func58,Tryz.ntmps58
  go_wp2_with fail
  refine (HD.out _).mono ?_
  rintro e w1 ⟨rfl,hx⟩
  replace HX:=zH (HX.out.trans hx)
  replace HM:=zH (HM.out.ext hx)
  replace HC:=zH (hx.cell HC.out)
  replace HBX:=zH (HBX.out.re hx)
  have hlt:=lt_of_heap HBX.out.here
  have kR:=(cells_of HBX.out.here).1
  have fR:=(cells_of HBX.out.here).2
  have hy:=(Ext.refl w1).alloc (.cells #[.int .i64 2,.int .i64 x] 71)
  have hlk:=(HM.out.ext hy).look0 (x:=x) HWF.out
  rw [HZ.out]at hlk
  have c0:=HC.out
  have c1:=hy.cell HC.out
  have hB:=lt_of_cell c0
  clear hx hy
  go_wp2_with fail
  ((try simp only [Exit.inBlock,Exit.then]);refine bodyPost_ret (v:= .agg #[.int .i64 2,.int .i64 z]) (by simp only [results,Tryz.results58];go_simp) rfl ?_)
  exact ⟨rfl,((HX.out.setCell HWS.out _).setCell HWS.out _).alloc _⟩
 ·have d2:(decT w==2)=false:=by rw [beq_eq_false_iff_ne];exact h2
  rw [if_neg h2]
  generalize decX w=x at*
  generalize decE w=er at*
  generalize decT w=t at*
  clear h2
  go_enter Tryz.func58,Tryz.ntmps58
  go_wp2_with fail
  refine (HD.out _).mono ?_
  rintro e w1 ⟨rfl,hx⟩
  replace HX:=zH (HX.out.trans hx)
  replace HM:=zH (HM.out.ext hx)
  replace HC:=zH (hx.cell HC.out)
  replace HBX:=zH (HBX.out.re hx)
  have hlt:=lt_of_heap HBX.out.here
  have kR:=(cells_of HBX.out.here).1
  have fR:=(cells_of HBX.out.here).2
  have hy:=(Ext.refl w1).alloc (.cells #[.int .i64 t,.int .i64 x] 71)
  have c0:=HC.out
  have c1:=hy.cell HC.out
  have hB:=lt_of_cell c0
  clear hx hy
  go_wp2_with fail
  ((try simp only [Exit.inBlock,Exit.then]);refine bodyPost_ret (v:= .agg #[.int .i64 t,.int .i64 x]) (by simp only [results,Tryz.results58];go_simp) rfl ?_)
  exact ⟨rfl,((HX.out.setCell HWS.out _).setCell HWS.out _).alloc _⟩
end Go.Proofs.YtphpppjfogpohaaGreat
namespace Go.Proofs.YtphpppjfogpohaaGreat
open Go.RowKit Go.Shelf
def RetLf (V:World) (vs:List NodV) (rs:List (Int×Int)) (os:List Int) (c:Int) (e:Ending) (w':World):Prop:=
 ∃(H:GraphD) (A:Option Addr) (cap:Nat),e= .returned (.tuple #[.agg #[.slice H.nA H.ns.length H.ncap,.slice H.rA H.rs.length H.rcap],.slice A os.length cap,.int .i64 c])∧GraphAt w' H∧H.ns.map nodeV=vs∧H.rs=rs∧Shp H∧IntsAt w' A os∧Ext V w'
structure LfI (W:World) (Bg:Nat) (u:Value) (v:Value) (cs:List NodeD) (wr:World):Prop where
 g:wr.heap[Bg]?=some (.cells #[v,u] 27 (0,0))
 own:Own 66 3 nodeC wr W.heap.size v cs
 each:∀c∈cs,OwnN wr W.heap.size c
 ext:Ext W wr
 lo:W.heap.size≤Bg
section
variable {W wk wr w' : World} {Bg : Nat} {u v : Value} {cs : List NodeD}
theorem LfI.grow (h:LfI W Bg u v cs wr) (hx:Ext wr w'):LfI W Bg u v cs w':=
 ⟨(hx.block (lt_of_heap h.g)).trans h.g,h.own.ext hx,fun c hc=>(h.each c hc).ext hx,h.ext.trans hx,h.lo⟩
theorem LfI.blk (h:LfI W Bg u v cs wr) (hg:wr.grownBy w' v.ownBlock):w'.heap[Bg]?=some (.cells #[v,u] 27 (0,0)):=
 (hg.block Bg (lt_of_heap h.g) (h.own.ne_block h.g (by decide))).trans h.g
theorem LfI.app (h:LfI W Bg u v cs wr) {x:NodeD} (hx:OwnN wr W.heap.size x) {v':Value} (hown:Own 66 3 nodeC w' W.heap.size v' (cs++ [x])) (hg:wr.grownBy w' v.ownBlock):
  LfI W Bg u v' (cs++ [x]) (w'.setCell ⟨Bg,0,none⟩ v'):=by
 have hb:w'.heap[Bg]?=_:=(hg.block Bg (lt_of_heap h.g) (h.own.ne_block h.g (by decide))).trans h.g
 refine ⟨blk_set hb _,hown.setOther hb (by decide),fun c hc=> ?_,(h.own.grown hg (Nat.le_refl _) h.ext).setCell h.lo _,h.lo⟩
 have hk:∀y:NodeD,OwnN wr W.heap.size y→OwnN (w'.setCell ⟨Bg,0,none⟩ v') W.heap.size y:=fun y hy=>
  ⟨((hy.kept h.own hg).f).setOther hb (by decide),((hy.kept h.own hg).r).setOther hb (by decide)⟩
 rcases List.mem_append.1 hc with hc | hc
 ·exact hk c (h.each c hc)
 ·rw [List.mem_singleton.1 hc]
  exact hk x hx
end
structure NdI (W:World) (X:Nat) (kd:Int) (v r:Value) (fs:List (Int×Int)) (ys:List Int) (wr:World):Prop where
 g:wr.heap[X]?=some (.cells #[.int .i64 kd,v,r] 66 (0,0))
 f:Own 71 2 spanC wr W.heap.size v fs
 r:Own 61 1 u64C wr W.heap.size r ys
 ext:Ext W wr
 lo:W.heap.size≤X
section
variable {W wr w' : World} {X : Nat} {kd : Int} {v r : Value} {fs : List (Int × Int)} {ys : List Int}
theorem NdI.start (W:World) (kd:Int):NdI W W.heap.size kd (.slice none 0 0) (.slice none 0 0) [] [] (W.alloc (.cells #[.int .i64 kd,.slice none 0 0,.slice none 0 0] 66)):=
 ⟨blk_new _ _ _ _ rfl,Own.nil _ _ _ _ _,Own.nil _ _ _ _ _,(Ext.refl _).alloc _,Nat.le_refl _⟩
theorem NdI.grow (h:NdI W X kd v r fs ys wr) (hx:Ext wr w'):NdI W X kd v r fs ys w':=
 ⟨(hx.block (lt_of_heap h.g)).trans h.g,h.f.ext hx,h.r.ext hx,h.ext.trans hx,h.lo⟩
theorem NdI.appF (h:NdI W X kd v r fs ys wr) {v':Value} {fs':List (Int×Int)} (hown:Own 71 2 spanC w' W.heap.size v' fs') (hg:wr.grownBy w' v.ownBlock):
  NdI W X kd v' r fs' ys (w'.setCell ⟨X,1,none⟩ v'):=by
 have hb:w'.heap[X]?=_:=(hg.block X (lt_of_heap h.g) (h.f.ne_block h.g (by decide))).trans h.g
 exact ⟨blk_set hb _,hown.setOther hb (by decide),(h.r.keep2 h.f (by decide) hg).setOther hb (by decide),(h.f.grown hg (Nat.le_refl _) h.ext).setCell h.lo _,h.lo⟩
theorem NdI.blkF (h:NdI W X kd v r fs ys wr) (hg:wr.grownBy w' v.ownBlock):w'.heap[X]?=some (.cells #[.int .i64 kd,v,r] 66 (0,0)):=
 (hg.block X (lt_of_heap h.g) (h.f.ne_block h.g (by decide))).trans h.g
theorem NdI.setR (h:NdI W X kd v r fs ys wr) {r':Value} {ys':List Int} (hown:Own 61 1 u64C wr W.heap.size r' ys'):
  NdI W X kd v r' fs ys' (wr.setCell ⟨X,2,none⟩ r'):=
 ⟨blk_set h.g _,h.f.setOther h.g (by decide),hown.setOther h.g (by decide),h.ext.setCell h.lo _,h.lo⟩
end
theorem used_succ (l:List (Bool×Int×Int)) (k:Nat) (h:k < l.length):usedL (l.take (k+1))=usedL (l.take k)++(if (l.getD k (false,0,0)).1 then [(l.getD k (false,0,0)).2.2]else []):=by
 rw [List.take_add_one,List.getElem?_eq_getElem h,getD_get h]
 unfold usedL
 rw [Option.toList_some,List.filter_append,List.map_append]
 congr 1
 cases hb:(l[k]).1
 ·simp [List.filter_cons,hb]
 ·simp [List.filter_cons,hb]
theorem used_len (l:List (Bool×Int×Int)):(usedL l).length≤l.length:=by
 unfold usedL
 rw [List.length_map]
 exact List.length_filter_le _ _
theorem OwnG.shp {w:World} {B:Nat} {G:GraphD} (h:OwnG w B G):Shp G:=by
 refine ⟨fun x hx=> ?_,?_,?_,?_,?_⟩
 ·have a:=(own_row (h.each x hx).f spanCells (by decide)).2
  have b:=(own_row (h.each x hx).r u64Cells (by decide)).2
  exact ⟨a.1,b.1,a.2,b.2⟩
 ·exact (own_row h.nodes nodeCells (by decide)).2.1
 ·exact (own_row h.roots spanCells (by decide)).2.1
 ·exact (own_row h.nodes nodeCells (by decide)).2.2
 ·exact (own_row h.roots spanCells (by decide)).2.2
theorem words_sub {w:World} {b off:Nat} {ws:List Int} (hc:∀i x,ws[i]?=some x→∀j v,(u64C x)[j]?=some v→w.cell? ⟨b,off+i*1+j,none⟩=some v) (n m:Nat) (h:n+m≤ws.length):
  RowAt 1 u64C w (some ⟨b,off+n,none⟩) ((List.range m).map fun (k:Nat)=>wdZ ws ((n:Int)+k)):=
 ⟨b,off+n,fun _=>rfl,fun i x hx j v hv=>by
  rw [List.getElem?_map]at hx
  by_cases hi:i < m
  ·rw [List.getElem?_range hi]at hx
   simp only [Option.map_some,Option.some.injEq]at hx
   have h1:=hc (n+i) x (by
    rw [←hx,List.getElem?_eq_getElem (by omega)]
    unfold wdZ
    rw [show ((n:Int)+(i:Int)).toNat=n+i by omega,getD_get (by omega)]) j v hv
   rw [show off+n+i*1+j=off+(n+i)*1+j by omega]
   exact h1
  ·rw [List.getElem?_eq_none (by simp;omega)]at hx
   cases hx⟩
structure LfR (W W2:World) (Bg:Nat) (v:Value) (cs:List NodeD) (r:Value) (rs:List (Int×Int)) (wr:World):Prop where
 g:wr.heap[Bg]?=some (.cells #[v,r] 27 (0,0))
 own:Own 66 3 nodeC wr W.heap.size v cs
 each:∀c∈cs,OwnN wr W.heap.size c
 roots:Own 71 2 spanC wr W2.heap.size r rs
 sep:∀c∈cs,∀b,(Value.slice c.fA c.fields.length c.fcap).ownBlock=some b→b < W2.heap.size
 ext:Ext W wr
 lo:W.heap.size≤Bg
 le:W.heap.size≤W2.heap.size
section
variable {W W2 wr w' : World} {Bg : Nat} {v r : Value} {cs : List NodeD} {rs : List (Int × Int)}
theorem LfR.start (h:LfI W Bg (.slice none 0 0) v cs wr):LfR W wr Bg v cs (.slice none 0 0) [] wr:=
 ⟨h.g,h.own,h.each,Own.nil _ _ _ _ _,fun c hc b hb=>(own_below (h.each c hc).f hb).2,h.ext,h.lo,h.ext.size⟩
theorem LfR.grow (h:LfR W W2 Bg v cs r rs wr) (hx:Ext wr w'):LfR W W2 Bg v cs r rs w':=
 ⟨(hx.block (lt_of_heap h.g)).trans h.g,h.own.ext hx,fun c hc=>(h.each c hc).ext hx,h.roots.ext hx,h.sep,h.ext.trans hx,h.lo,h.le⟩
theorem LfR.blk (h:LfR W W2 Bg v cs r rs wr) (hg:wr.grownBy w' r.ownBlock):w'.heap[Bg]?=some (.cells #[v,r] 27 (0,0)):=
 (hg.block Bg (lt_of_heap h.g) (h.roots.ne_block h.g (by decide))).trans h.g
theorem LfR.fin (h:LfR W W2 Bg v cs r rs wr) {A A2:Option Addr} {cap cap2:Nat} (hv:v= .slice A cs.length cap) (hr:r= .slice A2 rs.length cap2):OwnG wr W.heap.size ⟨A,cap,cs,A2,cap2,rs⟩:=by
 subst hv
 subst hr
 exact ⟨h.own,h.each,h.roots.mono h.le⟩
theorem LfR.app (h:LfR W W2 Bg v cs r rs wr) (hW2:W2.heap.size≤wr.heap.size) {r':Value} {x:Int×Int} (hown:Own 71 2 spanC w' W2.heap.size r' (rs++ [x])) (hg:wr.grownBy w' r.ownBlock):
  LfR W W2 Bg v cs r' (rs++ [x]) (w'.setCell ⟨Bg,1,none⟩ r'):=by
 have hb:w'.heap[Bg]?=_:=(hg.block Bg (lt_of_heap h.g) (h.roots.ne_block h.g (by decide))).trans h.g
 refine ⟨blk_set hb _,(h.own.keep2 h.roots (by decide) hg).setOther hb (by decide),fun c hc=>⟨?_,((h.each c hc).r.keep2 h.roots (by decide) hg).setOther hb (by decide)⟩,hown.setOther hb (by decide),h.sep,(h.roots.grown hg h.le h.ext).setCell h.lo _,h.lo,h.le⟩
 refine Own.setOther ((h.each c hc).f.kept hg ?_) hb (by decide)
 cases hA:(Value.slice c.fA c.fields.length c.fcap).ownBlock with
 | none=>exact .inl rfl
 | some b=>
  refine .inr fun e=> ?_
  have h1:=h.sep c hc b hA
  have h2:=(own_below h.roots e.symm).1
  omega
end
end Go.Proofs.YtphpppjfogpohaaGreat
