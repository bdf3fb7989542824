/- Merged by program (merge.py) out of: LfP, LowP, LfA, LfB. -/
import Derived.Test.YtphpppjfogpohaaGreatMu30
import Derived.Test.YtphpppjfogpohaaGreatMu37
import Derived.Test.YtphpppjfogpohaaGreatMu16
import Derived.Test.YtphpppjfogpohaaGreatMu14
import Derived.Deep.SlicePairs
import Derived.Test.YtphpppjfogpohaaGreatMu5
import Derived.Test.YtphpppjfogpohaaGreatMu35
import Derived.Test.YtphpppjfogpohaaGreatMu2
import Derived.Test.YtphpppjfogpohaaGreatMu4
set_option linter.unusedSimpArgs false
set_option linter.unusedVariables false
set_option maxRecDepth 100000
set_option maxHeartbeats 16000000
namespace Go.Proofs.YtphpppjfogpohaaGreat
open Go.RowKit Go.Shelf
structure LwS where
 top:Int
 u:Int
 pl:List Int
 tb:List (Int×Int)
def frL (la ls u:Int):List (Int×Int):=if u < ls then [(la+u,ls - u)]else []
section
variable (c0 c1 c2 c3 : Int) (sn : Bool)
def lwStep (s:LwS) (n:Int):Option LwS:=
 if smallB c0 c1 c2 c3 n then (if halfA c0 c1 c2 c3 sn+halfS c0 c1 c2 c3 < s.top+n then none else some ⟨s.top+n,s.u,s.pl++ [s.top],s.tb⟩)
 else if largeS c0 c1 c2 c3 < s.u+n then none else some ⟨s.top,s.u+n,s.pl++ [largeA c0 c1 c2 c3+s.u],s.tb++ [(largeA c0 c1 c2 c3+s.u,n)]⟩
def lwRun:LwS→List Int→Option LwS
 | s,[]=>some s
 | s,n::l=>match lwStep c0 c1 c2 c3 sn s n with
  | none=>none
  | some t=>lwRun t l
def lwS0:LwS:=⟨halfA c0 c1 c2 c3 sn,0,[],[]⟩
def lwAll (G:GraphD):Option LwS:=lwRun c0 c1 c2 c3 sn (lwS0 c0 c1 c2 c3 sn) (G.ns.map sizeN)
def layE (G:GraphD):Int:=if cfgB c0 c1 c2 c3=false then 1 else if rightG G=false then 4 else if c2 < G.rs.length then 8 else match lwAll c0 c1 c2 c3 sn G with
 | none=>9
 | some _=>0
def layS (G:GraphD):LwS:=if layE c0 c1 c2 c3 sn G=0 then (lwAll c0 c1 c2 c3 sn G).getD ⟨0,0,[],[]⟩else ⟨0,0,[],[]⟩
structure LwI (s:LwS):Prop where
 lo:halfA c0 c1 c2 c3 sn≤s.top
 hi:s.top≤halfA c0 c1 c2 c3 sn+halfS c0 c1 c2 c3
 u0:0≤s.u
 u1:s.u≤largeS c0 c1 c2 c3
 tb:∀x∈s.tb,largeA c0 c1 c2 c3≤x.1∧1≤x.2∧x.1+x.2≤largeA c0 c1 c2 c3+s.u
end
section
variable {c0 c1 c2 c3 : Int} {sn : Bool}
theorem LwI.start (h:cfgB c0 c1 c2 c3=true):LwI c0 c1 c2 c3 sn (lwS0 c0 c1 c2 c3 sn):=by
 have h2:=h
 simp only [cfgB,decide_eq_true_eq]at h2
 refine ⟨Int.le_refl _,?_,Int.le_refl _,?_,by simp [lwS0]⟩ <;>simp only [lwS0,halfS,largeS,h,if_true] <;>omega
theorem LwI.step {s t:LwS} {n:Int} (h:LwI c0 c1 c2 c3 sn s) (hn:1≤n) (hs:lwStep c0 c1 c2 c3 sn s n=some t):LwI c0 c1 c2 c3 sn t:=by
 obtain ⟨a,b,c,d,e⟩:=h
 unfold lwStep at hs
 split at hs
 ·split at hs
  ·cases hs
  ·injection hs with hs
   subst hs
   exact ⟨by simp only;omega,by simp only;omega,c,d,e⟩
 ·split at hs
  ·cases hs
  ·injection hs with hs
   subst hs
   refine ⟨a,b,by simp only;omega,by simp only;omega,fun x hx=> ?_⟩
   simp only [List.mem_append,List.mem_singleton]at hx⊢
   rcases hx with hx | rfl
   ·have:=e x hx;omega
   ·simp only;omega
theorem lwRun_snoc:∀(l:List Int) (s:LwS) (n:Int),lwRun c0 c1 c2 c3 sn s (l++ [n])=(lwRun c0 c1 c2 c3 sn s l).bind fun t=>lwStep c0 c1 c2 c3 sn t n
 | [],s,n=>by
  simp only [List.nil_append,lwRun,Option.bind_some]
  cases lwStep c0 c1 c2 c3 sn s n <;>rfl
 | m::l,s,n=>by
  simp only [List.cons_append,lwRun]
  cases lwStep c0 c1 c2 c3 sn s m with
  | none=>rfl
  | some t=>exact lwRun_snoc l t n
theorem lwRun_none:∀(l m:List Int) (s:LwS),lwRun c0 c1 c2 c3 sn s l=none→lwRun c0 c1 c2 c3 sn s (l++m)=none
 | [],m,s,h=>by cases h
 | n::l,m,s,h=>by
  simp only [List.cons_append,lwRun]at h⊢
  cases hs:lwStep c0 c1 c2 c3 sn s n with
  | none=>rfl
  | some t=>
   rw [hs]at h
   exact lwRun_none l m t h
theorem lwRun_inv:∀(l:List Int) (s t:LwS),LwI c0 c1 c2 c3 sn s→(∀n∈l,1≤n)→lwRun c0 c1 c2 c3 sn s l=some t→LwI c0 c1 c2 c3 sn t∧t.pl.length=s.pl.length+l.length
 | [],s,t,h,_,e=>by
  injection e with e
  subst e
  exact ⟨h,rfl⟩
 | n::l,s,t,h,hn,e=>by
  simp only [lwRun]at e
  cases hs:lwStep c0 c1 c2 c3 sn s n with
  | none=>rw [hs]at e;cases e
  | some v=>
   rw [hs]at e
   have h1:=h.step (hn n List.mem_cons_self) hs
   obtain ⟨a,b⟩:=lwRun_inv l v t h1 (fun m hm=>hn m (List.mem_cons_of_mem _ hm)) e
   refine ⟨a,?_⟩
   rw [b,List.length_cons]
   have:v.pl.length=s.pl.length+1:=by
    unfold lwStep at hs
    split at hs <;>split at hs <;>first | (injection hs with hs;subst hs;simp;done) | cases hs
   omega
end
theorem take_fr {la ls u n:Int} {ys:List (Int×Int)} {p er:Int} (hn:1≤n) (h0:0≤u) (h1:u≤ls) (hla:0≤la∧la≤1000000) (hls:ls≤1000000) (h:TakeRes n (frL la ls u) ys p er):
  (ls < u+n∧ys=frL la ls u∧p=0∧er=9)∨(u+n≤ls∧ys=frL la ls (u+n)∧p=la+u∧er=0):=by
 have hf:u < ls→(takeP n (la+u,ls - u)=true↔u+n≤ls):=fun h2=>by
  simp only [takeP,mayB,Bool.and_eq_true,decide_eq_true_eq]
  omega
 rcases h with ⟨h, -⟩ | ⟨-,h2,h3,h4,h5⟩ | ⟨-,k,hk, -,h3,h4,h5,h6⟩
 ·omega
 ·refine .inl ⟨?_,h3,h4,h5⟩
  by_cases hu:u < ls
  ·have h6:=h2 (la+u,ls - u) (by simp [frL,hu])
   by_cases h7:u+n≤ls
   ·rw [(hf hu).2 h7]at h6;cases h6
   ·omega
  ·omega
 ·by_cases hu:u < ls
  ·simp only [frL,hu,if_true,List.length_singleton]at hk
   obtain rfl:k=0:=by omega
   have e:gt (frL la ls u) 0=(la+u,ls - u):=by simp [frL,hu,gt]
   rw [e]at h3 h5
   refine .inr ⟨(hf hu).1 h3,?_,h5,h6⟩
   rw [h4,takeL,e]
   simp only [frL,hu,if_true]
   by_cases h7:ls - u=n
   ·rw [if_pos h7,if_neg (by omega)];rfl
   ·rw [if_neg h7,if_pos (by have:=(hf hu).1 h3;omega)]
    simp only [List.set_cons_zero,List.cons.injEq,Prod.mk.injEq,and_true]
    omega
  ·simp [frL,hu]at hk
theorem add_tb {la u n:Int} {tb ys:List (Int×Int)} {er:Int} (hn:1≤n) (hla:0≤la∧la≤1000000) (hu:0≤u∧u+n≤1000000) (ht:∀x∈tb,la≤x.1∧1≤x.2∧x.1+x.2≤la+u) (h:AddRes (la+u) n tb ys er):ys=tb++ [(la+u,n)]∧er=0:=by
 have hm:mayB (la+u) n=true:=by simp only [mayB,decide_eq_true_eq];omega
 have hg:tb.any (giveP (la+u) n)=false:=by
  rw [List.any_eq_false]
  intro x hx
  have:=ht x hx
  simp only [giveP,meetsB,hasB,mayB,Bool.and_eq_true,Bool.or_eq_true,decide_eq_true_eq]
  omega
 rcases h with ⟨h, -⟩ | ⟨-,h, -⟩ | ⟨-, -,h1,h2⟩
 ·rw [hm]at h;cases h
 ·rw [hg]at h;cases h
 ·refine ⟨?_,h2⟩
  have hi:addI (la+u) tb=tb.length:=by
   unfold addI
   rw [List.findIdx?_eq_none_iff.2 fun x hx=>by
    have:=ht x hx
    simp only [addP,decide_eq_false_iff_not]
    omega]
   rfl
  rw [h1,addL,hi,List.take_length,List.drop_length]
def wordV (pl:List Int) (v:Int×Int):Int:=if v.1=2 then encW 2 (pl.getD v.2.toNat 0)else encW v.1 v.2
def headN (x:NodeD):Hd:=⟨x.kind,x.fields.length,x.raws.length,false,0⟩
def nodeWs (pl:List Int) (x:NodeD):List Int:=hwordZ (headN x)::(x.fields.map (wordV pl)++x.raws)
def putW:List Int→Nat→List Int→List Int
 | ws,_,[]=>ws
 | ws,a,x::l=>putW (ws.set a x) (a+1) l
theorem putW_len:∀(l ws:List Int) (a:Nat),(putW ws a l).length=ws.length
 | [],ws,a=>rfl
 | x::l,ws,a=>by rw [putW,putW_len l,List.length_set]
theorem putW_snoc:∀(l ws:List Int) (a:Nat) (x:Int),putW ws a (l++ [x])=(putW ws a l).set (a+l.length) x
 | [],ws,a,x=>rfl
 | y::l,ws,a,x=>by
  rw [List.cons_append,putW,putW_snoc l,putW,List.length_cons]
  congr 1
  omega
theorem putW_app:∀(l m ws:List Int) (a:Nat),putW ws a (l++m)=putW (putW ws a l) (a+l.length) m
 | [],m,ws,a=>rfl
 | y::l,m,ws,a=>by
  rw [List.cons_append,putW,putW_app l,putW,List.length_cons]
  congr 1
  omega
def lwW (pl:List Int) (xs:List (NodeD×Int)) (ws:List Int):List Int:=xs.foldl (fun ws x=>putW ws x.2.toNat (nodeWs pl x.1)) ws
theorem lwW_len (pl:List Int):∀(xs:List (NodeD×Int)) (ws:List Int),(lwW pl xs ws).length=ws.length
 | [],ws=>rfl
 | x::xs,ws=>by
  show (lwW pl xs (putW ws x.2.toNat (nodeWs pl x.1))).length=_
  rw [lwW_len pl xs,putW_len]
theorem lwW_snoc (pl:List Int) (xs:List (NodeD×Int)) (x:NodeD×Int) (ws:List Int):lwW pl (xs++ [x]) ws=putW (lwW pl xs ws) x.2.toNat (nodeWs pl x.1):=by
 unfold lwW
 rw [List.foldl_append]
 rfl
def lwSl (pl:List Int) (rs:List (Int×Int)) (n k:Nat):List (Bool×Int×Int):=(rs.take k).map (fun v=>(true,0,wordV pl v))++List.replicate (n - k) (false,0,0)
theorem lwSl_len {pl:List Int} {rs:List (Int×Int)} {n k:Nat} (hk:k≤rs.length) (hn:k≤n):(lwSl pl rs n k).length=n:=by
 simp [lwSl]
 omega
theorem lwSl_succ {pl:List Int} {rs:List (Int×Int)} {n k:Nat} (hk:k < rs.length) (hn:k < n):lwSl pl rs n (k+1)=(lwSl pl rs n k).set k (true,0,wordV pl (rs.getD k (0,0))):=by
 have hl:((rs.take k).map fun v=>((true,0,wordV pl v):Bool×Int×Int)).length=k:=by simp;omega
 unfold lwSl
 rw [List.set_append_right _ _ (by omega),hl,Nat.sub_self,show n - k=(n - (k+1))+1 by omega,List.replicate_succ,List.set_cons_zero,List.take_add_one,List.getElem?_eq_getElem hk,Option.toList_some,List.map_append,List.map_singleton,List.append_assoc,List.singleton_append,getD_get hk]
def lwSt (c0 c1 c2 c3:Int) (sn:Bool) (G:GraphD):StD:=
 if layE c0 c1 c2 c3 sn G=0 then ⟨c0,c1,c2,c3,sn,none,lwW (layS c0 c1 c2 c3 sn G).pl (G.ns.zip (layS c0 c1 c2 c3 sn G).pl) (List.replicate (wordsZ c0 c1 c2 c3).toNat 0),0,(layS c0 c1 c2 c3 sn G).top,none,(layS c0 c1 c2 c3 sn G).tb,0,none,frL (largeA c0 c1 c2 c3) (largeS c0 c1 c2 c3) (layS c0 c1 c2 c3 sn G).u,0,none,lwSl (layS c0 c1 c2 c3 sn G).pl G.rs c2.toNat G.rs.length,0⟩
 else ⟨0,0,0,0,false,none,[],0,0,none,[],0,none,[],0,none,[],0⟩
end Go.Proofs.YtphpppjfogpohaaGreat
namespace Go.Proofs.YtphpppjfogpohaaGreat
open Go.RowKit Go.Shelf Go.Maps
end Go.Proofs.YtphpppjfogpohaaGreat
namespace Go.Proofs.YtphpppjfogpohaaGreat
open Go.RowKit Go.Shelf
def ExtS (W w:World):Prop:=Ext W w
theorem ExtS.cell {W W2:World} {p:Addr} {v:Value} (h:ExtS W W2) (hc:W.cell? p=some v) (u:KeptOf W2 (ExtS W)):u.1.cell? p=some v:=(show Ext W u.1 from u.of h).cell hc
end Go.Proofs.YtphpppjfogpohaaGreat
