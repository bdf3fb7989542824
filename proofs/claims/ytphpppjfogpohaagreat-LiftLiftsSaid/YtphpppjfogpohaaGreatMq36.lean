/- Merged by program (merge.py) out of: RchB, RchC, GraW, GraX, GraZ, GraPl, GraMo, OwnO. -/
import Derived.Test.YtphpppjfogpohaaGreatMq0
import Derived.OwnWalk
import Derived.Test.YtphpppjfogpohaaGreatMq35
import Derived.Test.YtphpppjfogpohaaGreatMq7
set_option linter.unusedSimpArgs false
set_option linter.unusedVariables false
set_option maxRecDepth 100000
set_option maxHeartbeats 16000000
namespace Go.Proofs.YtphpppjfogpohaaGreat
open Go.RowKit Go.Shelf
theorem cO {α:Type} {e:TypeId} {n:Nat} {f:α→List Value} {w w':World} {B:Nat} {v:Value} {xs:List α} (h:Own e n f w B v xs) {g:Nat} {cs:Array Value} {t:TypeId} {r:Nat×Nat} (hb:w.heap[g]?=some (.cells cs t r)) (hg:w.grownBy w' v.ownBlock) (hne:t≠e):w'.heap[g]?=some (.cells cs t r):=
 (hg.block g (aA hb) (h.ne_block hb hne)).trans hb
theorem dO (l:List Nat) (x:Nat):ordZ l++ [(x:Int)]=ordZ (l++ [x]):=by simp [ordZ]
theorem ug {l:List Int} {x:Int} (h:∀i,i < l.length→l.getD i 0≠x):decide (x∈l)=false:=by
 rw [decide_eq_false_iff_not]
 intro hm
 obtain ⟨i,hi,e⟩:=List.getElem_of_mem hm
 exact h i hi (by rw [aW hi];exact e)
theorem yV {l:List Int} {x:Int} {k:Nat} (hk:k < l.length) (h:l.getD k 0=x):decide (x∈l)=true:=by
 rw [decide_eq_true_eq,←h]
 exact aF hk
theorem tS (A:Option Addr) (cap:Nat) (zs:List Int) (v:Int) (W:World) (hlen:zs.length≤9223372036854775807) (hl:IntsAt W A zs):
  Calls Tryz.prog 126 #[.slice A zs.length cap,.int .i64 v] W fun e w'=>e= .returned (.bool (decide (v∈zs)))∧Ext W w':=by
 have HL:=zH hl
 clear hl
 go_enter Tryz.func126,Tryz.ntmps126
 go_wp2_with fail
 go_loopw [5] (fun i wr=>∃k:Nat,k≤zs.length∧i= .int .i64 k∧Ext W wr∧Hid (∀i,i < k→zs.getD i 0≠v)) (fun i _=>zs.length - (intOf i).toNat)
 case atStart=>exact ⟨0,by omega,rfl,AD _,zH oM⟩
 case round=>
  obtain ⟨k,hk,rfl,hxr,hq⟩:=hrel
  by_cases hlt:k < zs.length
  rotate_left
  ·have HR:=zH (ug fun i hi=>hq.out i oM)
   clear hq
   go_wp2_with fail
   go_ret
   exact ⟨aD HR.out.symm,hxr⟩
  obtain ⟨lb,off,rfl,hc⟩:=HL.out.get oM
  have c1:=hxr.cell (bD hc hlt)
  have HS:=zH (fun (h:zs.getD k 0≠v)=>(fun i (hi:i < k+1)=>by
   rcases Nat.lt_or_ge i k with h' | h'
   ·exact hq.out i h'
   ·obtain rfl:i=k:=by omega
    exact h:∀i,i < k+1→zs.getD i 0≠v))
  have HD:=zH (fun (h:zs.getD k 0=v)=>yV hlt h)
  clear hc HL hq
  generalize zs.getD k 0=x at*
  have ib1:(k:Int) < (zs.length:Int):=by omega
  by_cases he:x=v
  ·have HE:=zH (HD.out he)
   have hb:(x==v)=true:=by rw [beq_iff_eq];exact he
   clear he HD HS
   go_wp2_with fail
   go_ret
   exact ⟨aD HE.out.symm,hxr⟩
  ·have hb:(x==v)=false:=by rw [beq_eq_false_iff_ne];exact he
   have HE:=zH (HS.out he)
   clear he HD HS
   go_wp2_with fail
   go_roundw
   case rel=>exact ⟨k+1,by omega,by go_num,hxr,HE⟩
   case measure=>simp [intOf];omega
theorem lu (A:Option Addr) (n cap:Nat) (zs:List Nat) (hn:zs.length=n) (x:Nat) (b:Bool) (hb:decide (x∈zs)=b) (W:World) (B:Nat) (hlen:n≤1000000) (hl:Own 3 1 intC W B (.slice A n cap) (ordZ zs)):
  Calls Tryz.prog 126 #[.slice A n cap,.int .i64 x] W fun e w'=>e= .returned (.bool b)∧Ext W w':=by
 subst hn
 rw [←aN]at hl
 have Z:=tS A cap (ordZ zs) x W (by rw [aN];omega) (ag hl aO dM).1
 rw [aN]at Z
 rw [←hb,show decide (x∈zs)=decide ((x:Int)∈ordZ zs)from decide_eq_decide.2 ⟨fun h=>List.mem_map.2 ⟨x,h,rfl⟩,fun h=>by obtain ⟨y,hy,e⟩:=List.mem_map.1 h;rwa [←show y=x by omega]⟩]
 exact Z
structure RchG (G:GraphD) (lim blk:Nat):Prop where
 at_:GraphOk G
 n:G.ns.length≤1000
 r:G.rs.length≤1000
 f:∀x∈G.ns,x.fields.length≤4096∧x.raws.length≤4096
 pg:PgOk (G.ns.map aY) G.rs
 bk:1≤blk∧blk≤9223372036854775807
 lm:1≤lim∧lim≤9223372036854775807
def envG (G:GraphD) (lim blk:Nat):PlE:=envP (G.ns.map aY) lim blk
def TopOk (p:PlD):Prop:=p.top≤9000*p.small.length∧p.pile.length≤p.large.length∧∀x∈p.begins,x≤p.top
section
variable {G : GraphD} {lim blk : Nat} {p : PlD} {mk : Bool} {v : Int × Int}
theorem tT (i:Nat) (h:i < G.ns.length):(G.ns.map aY).getD i (0,[],[])=aY (G.ns.getD i default):=qY h
theorem yW (i:Nat) (h:i < G.ns.length):(envG G lim blk).sz i=1+(G.ns.getD i default).fields.length+(G.ns.getD i default).raws.length:=by
 simp only [envG,envP,tT i h];rfl
theorem fT (i:Nat) (h:i < G.ns.length):(envG G lim blk).fs i=(G.ns.getD i default).fields:=by
 simp only [envG,envP,tT i h];rfl
theorem aX:(envG G lim blk).n=G.ns.length:=by simp [envG,envP]
theorem RchG.sz (h:RchG G lim blk) (i:Nat) (hi:i < G.ns.length):(envG G lim blk).sz i≤9000∧dx (G.ns.getD i default)=((envG G lim blk).sz i:Nat):=by
 rw [yW i hi]
 have:=h.f _ (aF (d:=default) hi)
 refine ⟨by omega,?_⟩
 unfold dx wrap64
 omega
theorem RchG.env (h:RchG G lim blk):(envG G lim blk).Ok:=h.pg.env
theorem TopOk.meet (h:RchG G lim blk) (hv:v.1=2→0≤v.2∧v.2 < G.ns.length) (ht:TopOk p):TopOk (meetP (envG G lim blk) mk p v):=by
 unfold meetP
 split
 ·rename_i hf
  have h1:=hv (AQ.1 hf).1
  have h2:=(h.sz v.2.toNat oM).1
  split
  ·obtain ⟨t1,t2,t3⟩:=ht
   refine ⟨t1,?_,t3⟩
   simp only [PlD.addL,List.length_append,List.length_singleton]
   omega
  ·obtain ⟨t1,t2,t3⟩:=ht
   refine ⟨?_,t2,fun x hx=> ?_⟩
   ·simp only [PlD.addS,List.length_append,List.length_singleton]
    omega
   ·simp only [PlD.addS]at hx⊢
    rcases List.mem_append.1 hx with hx | hx
    ·have:=t3 x hx;omega
    ·simp at hx;omega
 ·exact ht
end
section
variable {G : GraphD} {lim blk : Nat} {p : PlD} {mk : Bool}
theorem TopOk.deep (hG:RchG G lim blk):∀(f:Nat) (p:PlD) (l:List (Int×Int)),TopOk p→bF G.ns.length l→TopOk (deepP (envG G lim blk) mk f p l):=by
 intro f
 induction f with
 | zero=>exact fun p l h _=>h
 | succ f ih=>
  intro p l h hl
  refine ep (f:=oneP (envG G lim blk) mk f) (I:=TopOk) l p (fun v hv q hq=> ?_) h
  have hm:=hq.meet (mk:=mk) hG (hl v hv)
  by_cases hn:newP (envG G lim blk) q v=true
  ·rw [oneP,if_pos hn]
   refine ih _ _ hm ?_
   have hlt:=jZ (by rw [aX];exact hl v hv) hn
   have:=hG.env _ hlt
   rw [aX]at this
   exact this
  ·rw [oneP,if_neg hn]
   exact hm
theorem TopOk.all (hG:RchG G lim blk) (h:TopOk p) {l:List (Int×Int)} (hl:bF G.ns.length l):TopOk (allP (envG G lim blk) mk p l):=
 ep (f:=meetP (envG G lim blk) mk) (I:=TopOk) l p (fun v hv q hq=>hq.meet hG (hl v hv)) h
end
def RP (V0:World) (G:GraphD) (lim blk b:Nat) (p:PlD) (w:World):Prop:=∃sA sc bA bc kA kc lA lc pA pc,RQ V0 G lim blk b sA sc bA bc kA kc lA lc pA pc p w
theorem RP.grow {V0 w w':World} {G:GraphD} {lim blk b:Nat} {p:PlD} (h:RP V0 G lim blk b p w) (hx:Ext w w'):RP V0 G lim blk b p w':=by
 obtain ⟨sA,sc,bA,bc,kA,kc,lA,lc,pA,pc,h⟩:=h
 exact ⟨sA,sc,bA,bc,kA,kc,lA,lc,pA,pc,h.grow hx⟩
theorem RP.ext {V0 w:World} {G:GraphD} {lim blk b:Nat} {p:PlD} (h:RP V0 G lim blk b p w):Ext V0 w:=by
 obtain ⟨sA,sc,bA,bc,kA,kc,lA,lc,pA,pc,h⟩:=h
 exact h.ext
section
variable {V0 : World} {G : GraphD} {lim blk b : Nat} {p : PlD} {V : World}
def e6 (V0:World) (G:GraphD) (lim blk b:Nat) (p:PlD) (v:Int×Int) (e:Ending) (w':World):Prop:=e= .returned (.bool (newP (envG G lim blk) p v))∧RP V0 G lim blk b (meetP (envG G lim blk) false p v) w'
theorem uh (h:RP V0 G lim blk b p V) (v:Int×Int) (hv:v.1≠2):
  Calls Tryz.prog 222 #[.pointer (some ⟨b,0,none⟩),.agg #[.int .i64 v.1,.int .i64 v.2]] V (e6 V0 G lim blk b p v):=by
 obtain ⟨k,x⟩:=v
 have hf:p.fresh (k,x)=false:=by simp [PlD.fresh];exact fun e=>absurd e hv
 have e1:newP (envG G lim blk) p (k,x)=false:=by simp [newP,hf]
 have e2:meetP (envG G lim blk) false p (k,x)=p:=by simp [meetP,hf]
 have d0:(k !=2)=true:=by simpa using hv
 have HR:=zH (h.grow ((AD V).alloc (.cells #[.int .i64 k,.int .i64 x] 71)))
 unfold e6
 rw [e1,e2]
 clear h hv hf e1 e2
 go_enter Tryz.func222,Tryz.ntmps222
 go_wp2_with fail
 go_ret
 exact ⟨rfl,HR.out⟩
theorem ui (h:RP V0 G lim blk b p V) (x:Nat) (ho:PlOk (envG G lim blk) p) (hG:RchG G lim blk) (hm:x∈p.small++p.large):
  Calls Tryz.prog 222 #[.pointer (some ⟨b,0,none⟩),.agg #[.int .i64 2,.int .i64 x]] V (e6 V0 G lim blk b p (2,x)):=by
 have hf:p.fresh (2,(x:Int))=false:=by
  cases hc:p.fresh (2,(x:Int))with
  | false=>rfl
  | true=>exact absurd hm (by have:=(AQ.1 hc).2;simpa using this)
 have e1:newP (envG G lim blk) p (2,(x:Int))=false:=by simp [newP,hf]
 have e2:meetP (envG G lim blk) false p (2,(x:Int))=p:=by simp [meetP,hf]
 have hmet:=ho.met_le
 have hn:=hG.n
 rw [aX]at hmet
 unfold PlD.met at hmet
 have hx0:=(AD V).alloc (.cells #[.int .i64 2,.int .i64 x] 71)
 obtain ⟨sA,sc,bA,bc,kA,kc,lA,lc,pA,pc,hq⟩:=h
 have hB:=aG V #[.int .i64 2,.int .i64 x] 71 _ rfl
 have HQ:Pers V (fun w=>RQ V0 G lim blk b sA sc bA bc kA kc lA lc pA pc p w):=fun w k=>hq.grow k
 replace HQ:=HQ.re hx0
 unfold e6
 rw [e1,e2]
 have k1:=(aB HQ.here.blk).1
 by_cases hs:x∈p.small
 ·have HI:=zH (fun w (hw:Own 3 1 intC w V0.heap.size (.slice sA p.small.length sc) (ordZ p.small))=>lu sA p.small.length sc p.small rfl x true (by simpa using hs) w V0.heap.size oM hw)
  clear hf e1 e2 hmet hn hx0 hq ho hG hm hs
  go_enter Tryz.func222,Tryz.ntmps222
  go_wp2_with fail
  refine (HI.out _ HQ.here.os).mono ?_
  rintro e w1 ⟨rfl,hx⟩
  (replace HQ:=HQ.re hx;replace hB:=hB.re hx)
  clear hx k1
  have k1:=(aB HQ.here.blk).1
  go_wp2_with fail
  go_ret
  exact ⟨rfl,_,_,_,_,_,_,_,_,_,_,HQ.here⟩
 ·have hl : x ∈ p.large := by
   rcases List.mem_append.1 hm with h | h
   ·exact absurd h hs
   ·exact h
  have HI:=zH (fun w (hw:Own 3 1 intC w V0.heap.size (.slice sA p.small.length sc) (ordZ p.small))=>lu sA p.small.length sc p.small rfl x false (by simpa using hs) w V0.heap.size oM hw)
  have HI2:=zH (fun w (hw:Own 3 1 intC w V0.heap.size (.slice lA p.large.length lc) (ordZ p.large))=>lu lA p.large.length lc p.large rfl x true (by simpa using hl) w V0.heap.size oM hw)
  clear hf e1 e2 hmet hn hx0 hq ho hG hm hs hl
  go_enter Tryz.func222,Tryz.ntmps222
  go_wp2_with fail
  refine (HI.out _ HQ.here.os).mono ?_
  rintro e w1 ⟨rfl,hx⟩
  (replace HQ:=HQ.re hx;replace hB:=hB.re hx)
  clear hx k1
  have k1:=(aB HQ.here.blk).1
  go_wp2_with fail
  refine (HI2.out _ HQ.here.ol).mono ?_
  rintro e w2 ⟨rfl,hx⟩
  (replace HQ:=HQ.re hx;replace hB:=hB.re hx)
  clear hx k1
  go_wp2_with fail
  go_ret
  exact ⟨rfl,_,_,_,_,_,_,_,_,_,_,HQ.here⟩
theorem uj (h:RP V0 G lim blk b p V) (hV:GraphAt V0 G) (x:Nat) (ho:PlOk (envG G lim blk) p) (ht:TopOk p) (hG:RchG G lim blk) (hxn:x < G.ns.length) (hm:x∉p.small++p.large):
  Calls Tryz.prog 222 #[.pointer (some ⟨b,0,none⟩),.agg #[.int .i64 2,.int .i64 x]] V (e6 V0 G lim blk b p (2,x)):=by
 have hf:p.fresh (2,(x:Int))=true:=AQ.2 ⟨rfl,by simpa using hm⟩
 have hmet:=ho.met_le
 have hn:=hG.n
 rw [aX]at hmet
 unfold PlD.met at hmet
 have hs:x∉p.small:=fun h=>hm (List.mem_append_left _ h)
 have hl:x∉p.large:=fun h=>hm (List.mem_append_right _ h)
 obtain ⟨z1,z2⟩:=hG.sz x hxn
 have e1:newP (envG G lim blk) p (2,(x:Int))=decide ((envG G lim blk).sz x≤lim):=by simp [newP,hf];rfl
 have e2:meetP (envG G lim blk) false p (2,(x:Int))=if lim < (envG G lim blk).sz x then p.addL x else p.addS false x ((envG G lim blk).sz x):=by simp only [meetP,hf,if_true];rfl
 have hx0:=(AD V).alloc (.cells #[.int .i64 2,.int .i64 x] 71)
 obtain ⟨sA,sc,bA,bc,kA,kc,lA,lc,pA,pc,hq⟩:=h
 have hB:=aG V #[.int .i64 2,.int .i64 x] 71 _ rfl
 have HQ:Pers V (fun w=>RQ V0 G lim blk b sA sc bA bc kA kc lA lc pA pc p w):=fun w k=>hq.grow k
 have HV:=zH (hq.ext.trans hx0)
 replace HQ:=HQ.re hx0
 have k1:=(aB HQ.here.blk).1
 have HI:=zH (fun w (hw:Own 3 1 intC w V0.heap.size (.slice sA p.small.length sc) (ordZ p.small))=>lu sA p.small.length sc p.small rfl x false (by simpa using hs) w V0.heap.size oM hw)
 have HI2:=zH (fun w (hw:Own 3 1 intC w V0.heap.size (.slice lA p.large.length lc) (ordZ p.large))=>lu lA p.large.length lc p.large rfl x false (by simpa using hl) w V0.heap.size oM hw)
 obtain ⟨nb,noff,hA,hcn⟩:=hV.nodes.row.get oM
 obtain ⟨d0,d1,d2⟩:=ah hcn hxn
 have D0:=zH d0
 have D1:=zH d1
 have D2:=zH d2
 generalize (envG G lim blk).sz x=z at*
 have HS:=zH (fun W=>ji (G.ns.getD x default) W)
 rw [z2]at HS
 have ib0:(0:Int)≤(x:Int):=by omega
 have ib1:(x:Int) < (G.ns.length:Int):=by omega
 rw [hA]at k1
 clear hcn d0 d1 d2 hV hs hl hm hxn
 generalize G.ns.getD x default=y at*
 have hpl:p.pile.length≤1000:=by have:=ht.2.1;omega
 have htp:p.top≤9000000:=by have:=ht.1;omega
 have hbl:p.begins.length≤1000:=by have:=ho.bl;omega
 have hll:p.lk.length≤1000:=by have:=ho.ll;omega
 clear ht ho hG
 by_cases hz:lim < z
 ·have dz:decide (lim < z)=true:=by simpa using hz
  have dz2:decide (z≤lim)=false:=by simpa using hz
  rw [if_pos hz]at e2
  rw [dz2]at e1
  clear hz dz2
  unfold e6
  rw [e1,e2]
  clear e1 e2 hf hx0 hq
  go_enter Tryz.func222,Tryz.ntmps222
  go_wp2_with fail
  refine (HI.out _ HQ.here.os).mono ?_
  rintro e w1 ⟨rfl,hx⟩
  (replace HQ:=HQ.re hx;replace hB:=hB.re hx)
  replace HV:=zH (HV.out.trans hx)
  clear hx k1
  have k1:=(aB HQ.here.blk).1
  go_wp2_with fail
  refine (HI2.out _ HQ.here.ol).mono ?_
  rintro e w2 ⟨rfl,hx⟩
  (replace HQ:=HQ.re hx;replace hB:=hB.re hx)
  replace HV:=zH (HV.out.trans hx)
  clear hx k1
  have k1:=(aB HQ.here.blk).1
  rw [hA]at k1
  have g0:=HV.out.cell D0.out
  have g1:=HV.out.cell D1.out
  have g2:=HV.out.cell D2.out
  go_wp2_with fail
  refine (HS.out w2).mono ?_
  rintro e w3 ⟨rfl,hx⟩
  (replace HQ:=HQ.re hx;replace hB:=hB.re hx)
  replace HV:=zH (HV.out.trans hx)
  clear hx k1 g0 g1 g2 HI HI2 D0 D1 D2 HS hB
  have k1:=(aB HQ.here.blk).1
  rw [hA]at k1
  go_wp2_with (first
   | (at_builtin;refine aH rfl (.tmp 45) (.tmp 47) 38 rfl bj aO rfl (by exact HQ.here.ol) [(x:Int)] 1 _ rfl (p.large.length+1) 1 (by simp [ordZ]) rfl _ rfl (by first | rfl | exact hsz | simp) oM (by simp [maxLen];omega) (HQ.here.ext.size) ?_;intro A2 c2 W2 hown2 hgr2 hat2;rw [dO]at hown2;have HX2:=zH (HQ.here.grow ((AD _).alloc (.cells #[.int .i64 x] 3)));have hb2:=cO HX2.out.ol HX2.out.blk hgr2 dM;clear k1;have k1:=(aB hb2).1;have f1:=(aB hb2).2;have q1:=aA hb2;have ho2:=zH hown2;have hg2:=zH hgr2;have ht2:=zH hat2;clear hown2 hgr2 hat2 hb2)
   | (at_builtin;have HQ2:=zH (HX2.out.turn_l sM ho2.out hg2.out (ht2.out.imp id fun h=> .inr ⟨_,by simp,h⟩));refine aH rfl (.tmp 55) (.tmp 57) 38 rfl bj aO rfl (by exact HQ2.out.op) [(x:Int)] 1 _ rfl (p.pile.length+1) 1 (by simp [ordZ]) rfl _ rfl (by first | rfl | exact hsz | simp) oM (by simp [maxLen];omega) (HQ2.out.ext.size) ?_;intro A3 c3 W3 hown3 hgr3 hat3;rw [dO]at hown3;have HX3:=zH (HQ2.out.grow ((AD _).alloc (.cells #[.int .i64 x] 3)));have hb3:=cO HX3.out.op HX3.out.blk hgr3 dM;clear k1;have k1:=(aB hb3).1;have f1:=(aB hb3).2;have q1:=aA hb3;have ho3:=zH hown3;have hg3:=zH hgr3;have ht3:=zH hat3;clear hown3 hgr3 hat3 hb3))
  go_ret
  have HQ3:=HX3.out.turn_p sM ho3.out hg3.out (ht3.out.imp id fun h=> .inr ⟨_,by simp,h⟩)
  exact ⟨rfl,_,_,_,_,_,_,_,_,_,_,HQ3⟩
 ·have dz:decide (lim < z)=false:=by simpa using hz
  have dz2:decide (z≤lim)=true:=by simpa using hz
  rw [if_neg hz]at e2
  rw [dz2]at e1
  clear hz dz2
  unfold e6
  rw [e1,e2]
  clear e1 e2 hf hx0 hq
  go_enter Tryz.func222,Tryz.ntmps222
  go_wp2_with fail
  refine (HI.out _ HQ.here.os).mono ?_
  rintro e w1 ⟨rfl,hx⟩
  (replace HQ:=HQ.re hx;replace hB:=hB.re hx)
  replace HV:=zH (HV.out.trans hx)
  clear hx k1
  have k1:=(aB HQ.here.blk).1
  go_wp2_with fail
  refine (HI2.out _ HQ.here.ol).mono ?_
  rintro e w2 ⟨rfl,hx⟩
  (replace HQ:=HQ.re hx;replace hB:=hB.re hx)
  replace HV:=zH (HV.out.trans hx)
  clear hx k1
  have k1:=(aB HQ.here.blk).1
  rw [hA]at k1
  have g0:=HV.out.cell D0.out
  have g1:=HV.out.cell D1.out
  have g2:=HV.out.cell D2.out
  go_wp2_with fail
  refine (HS.out w2).mono ?_
  rintro e w3 ⟨rfl,hx⟩
  (replace HQ:=HQ.re hx;replace hB:=hB.re hx)
  replace HV:=zH (HV.out.trans hx)
  clear hx k1 g0 g1 g2 HI HI2 D0 D1 D2 HS hB
  have k1:=(aB HQ.here.blk).1
  rw [hA]at k1
  go_wp2_with (first
   | (at_builtin;refine aH rfl (.tmp 65) (.tmp 67) 38 rfl bj aO rfl (by exact HQ.here.os) [(x:Int)] 1 _ rfl (p.small.length+1) 1 (by simp [ordZ]) rfl _ rfl (by first | rfl | exact hsz | simp) oM (by simp [maxLen];omega) (HQ.here.ext.size) ?_;intro A2 c2 W2 hown2 hgr2 hat2;rw [dO]at hown2;have HX2:=zH (HQ.here.grow ((AD _).alloc (.cells #[.int .i64 x] 3)));have hb2:=cO HX2.out.os HX2.out.blk hgr2 dM;clear k1;have k1:=(aB hb2).1;have f1:=(aB hb2).2;have q1:=aA hb2;have ho2:=zH hown2;have hg2:=zH hgr2;have ht2:=zH hat2;clear hown2 hgr2 hat2 hb2))
  have HQ3:=zH (HX2.out.turn_s sM ho2.out hg2.out (ht2.out.imp id fun h=> .inr ⟨_,by simp,h⟩))
  clear ho2 hg2 ht2 k1 f1 q1 HX2 HQ HV
  generalize W2.setCell ⟨b,4,none⟩ _=W3 at*
  have hb3:BoxK b #[.slice G.nA G.ns.length G.ncap,.slice G.rA G.rs.length G.rcap,.int .i64 lim,.int .i64 blk,.slice A2 (p.small.length+1) c2,.slice bA p.begins.length bc,.slice kA p.lk.length kc,.slice lA p.large.length lc,.slice pA p.pile.length pc,.int .i64 p.top] 206 W3:=by
   have:=HQ3.out.blk
   unfold BoxK
   simpa using this
  have hyd:=(AD W3).drew
  have hGP:=hb3.ext hyd
  have gB:=hGP.cells
  (refine dJ (w:=W3) (fun _=>True) (.rd [0] (.wk [10,11,12,13] (.rd [1,2,3,4,5,6,7,8] (.one 9 .tl)))) [] kR kR (by intro c a d v w h;first | exact h | (cases d <;>first | exact h | (cases h;done) | cases h.1.1 | cases h.1)) trivial ?_;(refine iv ?_;(try simp only [aI,List.map_cons,List.map_nil,List.getD_cons_zero,List.getD_cons_succ]);(repeat (go_big_quiet_step (fail)));refine wpQuiet_nil ?_);refine vW (fun _=>trivial) (fun w'=>∃u:KeptOf (W3).drew (BoxK b #[.slice G.nA G.ns.length G.ncap,.slice G.rA G.rs.length G.rcap,.int .i64 lim,.int .i64 blk,.slice A2 (p.small.length+1) c2,.slice bA p.begins.length bc,.slice kA p.lk.length kc,.slice lA p.large.length lc,.slice pA p.pile.length pc,.int .i64 p.top] 206),w'=u.1) (ak hGP) ?_)
  (refine iv ?_;(try simp only [aI,List.map_cons,List.map_nil,List.getD_cons_zero,List.getD_cons_succ]);(repeat (go_big_quiet_step (fail)));refine wpQuiet_nil ?_)
  (refine cM gD rM ?_;intro K hK;go_simp)
  refine hK _ _ _ (fun _ h=>h) (ak (hGP.ext ((AD _).alloc _))) ?_
  clear hK K gB
  (refine kf ?_;(try simp only [aI,List.map_cons,List.map_nil,List.getD_cons_zero,List.getD_cons_succ]))
  have HQ4:=zH (HQ3.out.grow hyd)
  clear hyd hGP hb3 HQ3
  have edr:∀o,(W3.alloc o).drew=W3.drew.alloc o:=fun _=>rfl
  rw [edr]
  clear edr
  have hsz:W3.drew.heap.size=W3.heap.size:=rfl
  generalize W3.drew=W4 at*
  have k1:=(aB (HQ4.out.grow ((AD _).alloc (.cells #[.int .i64 p.top] 3))).blk).1
  go_wp2_with (first
   | (at_builtin;refine aH rfl (.tmp 75) (.tmp 80) 38 rfl bj aO rfl (by exact HQ4.out.ob) [(p.top:Int)] 1 _ rfl (p.begins.length+1) 1 (by simp [ordZ]) rfl _ rfl (by first | rfl | exact hsz | simp) oM (by simp [maxLen];omega) (HQ4.out.ext.size) ?_;intro A5 c5 W5 hown5 hgr5 hat5;rw [dO]at hown5;have HX5:=zH (HQ4.out.grow ((AD _).alloc (.cells #[.int .i64 p.top] 3)));have hb5:=cO HX5.out.ob HX5.out.blk hgr5 dM;clear k1;have k1:=(aB hb5).1;have f1:=(aB hb5).2;have q1:=aA hb5;have ho5:=zH hown5;have hg5:=zH hgr5;have ht5:=zH hat5;clear hown5 hgr5 hat5 hb5)
   | (at_builtin;have HQ5:=zH (HX5.out.turn_b sM ho5.out hg5.out (ht5.out.imp id fun h=> .inr ⟨_,by simp,h⟩));refine aH rfl (.tmp 88) (.tmp 89) 199 rfl pU cn rfl (by exact HQ5.out.ok) [false] 1 _ rfl (p.lk.length+1) 1 (by simp [ordZ]) rfl _ rfl (by first | rfl | exact hsz | simp) oM (by simp [maxLen];omega) (HQ5.out.ext.size) ?_;intro A7 c7 W7 hown7 hgr7 hat7;have HX7:=zH (HQ5.out.grow ((AD _).alloc (.cells #[.bool false] 4)));have hb7:=cO HX7.out.ok HX7.out.blk hgr7 dM;clear k1;have k1:=(aB hb7).1;have f1:=(aB hb7).2;have q1:=aA hb7;have ho7:=zH hown7;have hg7:=zH hgr7;have ht7:=zH hat7;clear hown7 hgr7 hat7 hb7))
  have HQ8:=(HX7.out.turn_k sM ho7.out hg7.out (ht7.out.imp id fun h=> .inr ⟨_,by simp,h⟩)).top (p.top+z)
  go_ret
  exact ⟨rfl,_,_,_,_,_,_,_,_,_,_,HQ8⟩
theorem nR (h:RP V0 G lim blk b p V) (hV:GraphAt V0 G) (v:Int×Int) (hv:v.1=2→0≤v.2∧v.2 < G.ns.length) (ho:PlOk (envG G lim blk) p) (ht:TopOk p) (hG:RchG G lim blk):
  Calls Tryz.prog 222 #[.pointer (some ⟨b,0,none⟩),.agg #[.int .i64 v.1,.int .i64 v.2]] V (e6 V0 G lim blk b p v):=by
 by_cases h2:v.1=2
 rotate_left
 ·exact uh h v h2
 obtain ⟨h0,h1⟩:=hv h2
 obtain ⟨k,y⟩:=v
 obtain ⟨x,rfl⟩:=Int.eq_ofNat_of_zero_le h0
 simp only at h2 h1
 subst h2
 by_cases hm:x∈p.small++p.large
 ·exact ui h x ho hG hm
 ·exact uj h hV x ho ht hG oM hm
end
theorem yX (A A2:Option Addr) (cap cap2:Nat) (xs ys:List Int) (b:Bool) (hb:decide (xs=ys)=b) (W:World) (hlen:xs.length≤9223372036854775807) (hlen2:ys.length≤9223372036854775807) (hl:IntsAt W A xs) (hl2:IntsAt W A2 ys):
  Calls Tryz.prog 16 #[.slice A xs.length cap,.slice A2 ys.length cap2] W fun e w'=>e= .returned (.bool b)∧Ext W w':=by
 subst hb;exact vZ A A2 cap cap2 xs ys W hlen hlen2 hl hl2
theorem qd (G H:GraphD) (b:Bool) (W:World) (h:ia G H=b) (hG:GraphAt W G) (hH:GraphAt W H) (oG:GraphOk G) (oH:GraphOk H):
  Calls Tryz.prog 29 #[.agg #[.slice G.nA G.ns.length G.ncap,.slice G.rA G.rs.length G.rcap],.agg #[.slice H.nA H.ns.length H.ncap,.slice H.rA H.rs.length H.rcap]] W fun e w'=>e= .returned (.bool b)∧Ext W w':=by
 rw [←h];exact oy G H W hG hH oG oH
structure Perm (o:List Int) (n:Nat):Prop where
 len:o.length=n
 in_:∀i,i < n→0≤o.getD i 0∧o.getD i 0 < n
 pl:∀i,i < n→aj o (o.getD i 0)=i
section
variable {o : List Int} {n : Nat}
theorem qe {v:Int×Int} (hv:okV n v=true):v.1=2→0≤v.2∧v.2 < n:=by
 intro h2
 simp [okV,cu,h2]at hv;omega
end
section
variable {G H : GraphD} {o : List Int}
theorem jp (hR:aV G=true):(∀x∈G.ns,okN x=true∧∀v∈x.fields,okV G.ns.length v=true)∧∀v∈G.rs,okV G.ns.length v=true:=by
 simp only [aV,Bool.and_eq_true,List.all_eq_true]at hR
 exact hR
end
end Go.Proofs.YtphpppjfogpohaaGreat
namespace Go.Proofs.YtphpppjfogpohaaGreat
open Go.RowKit Go.Shelf Go.Maps
def OwnO (w:World) (B:Nat) (v:Value) (xs:List Int):Prop:=
 (v= .slice none 0 0∧xs= [])∨∃g off cap cur,v= .slice (some ⟨g,off,none⟩) xs.length cap∧B≤g∧w.heap[g]?=some (.cells cur 3 (0,0))∧xs.length≤cap∧cap≤maxLen∧off+cap≤cur.size∧(cur.toList.drop off).take xs.length=xs.flatMap intC
section
variable {w w' : World} {B : Nat} {v : Value} {xs : List Int}
theorem OwnO.nil (w:World) (B:Nat):OwnO w B (.slice none 0 0) []:= .inl ⟨rfl,rfl⟩
theorem OwnO.of (h:Own 3 1 intC w B v xs):OwnO w B v xs:=by
 obtain ⟨h1,h2⟩:=h
 rcases h2 with ⟨rfl,h0⟩ | ⟨g,cap,cur,rfl,hb,hg,hc,hcm,hcs,ht⟩
 ·exact .inl ⟨rfl,List.eq_nil_of_length_eq_zero h0⟩
 ·exact .inr ⟨g,0,cap,cur,rfl,hb,hg,hc,hcm,by omega,by simpa using ht⟩
theorem OwnO.lt (h:OwnO w B v xs) {g:Nat} (hv:v.ownBlock=some g):B≤g∧g < w.heap.size:=by
 rcases h with ⟨rfl,_⟩ | ⟨g',off,cap,cur,rfl,hb,hg,_⟩
 ·cases hv
 ·injection hv with hv
  simp only at hv
  subst hv
  exact ⟨hb,aA hg⟩
theorem OwnO.same (h:OwnO w B v xs) (hs:∀g,v.ownBlock=some g→w'.heap[g]?=w.heap[g]?):OwnO w' B v xs:=by
 rcases h with h | ⟨g,off,cap,cur,rfl,hb,hg,r⟩
 ·exact .inl h
 ·exact .inr ⟨g,off,cap,cur,rfl,hb,(hs g rfl).trans hg,r⟩
theorem OwnO.ext (h:OwnO w B v xs) (hx:Ext w w'):OwnO w' B v xs:=h.same fun g hv=>hx.block (h.lt hv).2
theorem OwnO.kept {row:Option Nat} (h:OwnO w B v xs) (hg:w.grownBy w' row) (hne:∀g,v.ownBlock=some g→some g≠row):OwnO w' B v xs:=h.same fun g hv=>hg.block g (h.lt hv).2 (hne g hv)
theorem OwnO.setNe (h:OwnO w B v xs) {b i:Nat} {u:Value} (hne:v.ownBlock≠some b):OwnO (w.setCell ⟨b,i,none⟩ u) B v xs:=h.same fun g hv=>Below.heap_setCell w ⟨b,i,none⟩ u g (fun e=>hne (by rw [hv,e]))
theorem OwnO.setOther (h:OwnO w B v xs) {b i:Nat} {u:Value} {cs:Array Value} {t:TypeId} {r:Nat×Nat} (hb:w.heap[b]?=some (.cells cs t r)) (hne:t≠3):OwnO (w.setCell ⟨b,i,none⟩ u) B v xs:=h.setNe fun hv=>by
 rcases h with ⟨rfl,_⟩ | ⟨g,off,cap,cur,rfl,_,hg,_⟩
 ·cases hv
 ·injection hv with hv
  simp only at hv
  rw [hv,hb]at hg
  injection hg with hg
  injection hg with _ hg _
  exact hne hg
theorem OwnO.form (h:OwnO w B v xs):∃A cap,v= .slice A xs.length cap∧xs.length≤cap∧(∀k,k < xs.length→∃g off,A=some ⟨g,off,none⟩∧w.cell? ⟨g,off+k,none⟩=some (.int .i64 (xs.getD k 0))):=by
 rcases h with ⟨rfl,rfl⟩ | ⟨g,off,cap,cur,rfl,hb,hg,hc,hcm,hcs,ht⟩
 ·exact ⟨none,0,rfl,by simp,fun k hk=>by simp at hk⟩
 ·refine ⟨_,cap,rfl,hc,fun k hk=>⟨g,off,rfl,?_⟩⟩
  have h1:cur.toList[off+k]?=some (.int .i64 (xs.getD k 0)):=by
   have h2:((cur.toList.drop off).take xs.length)[k]?=(xs.flatMap intC)[k]?:=by rw [ht]
   rw [List.getElem?_take_of_lt hk,List.getElem?_drop]at h2
   rw [h2]
   have:=eY aO dM (l:=xs) (i:=k) (j:=0) (x:=xs.getD k 0) (u:= .int .i64 (xs.getD k 0)) (by simp [hk]) rfl
   simpa using this
  rw [(aB hg).1 (off+k)]
  simpa using h1
theorem OwnO.tail {A:Option Addr} {n cap:Nat} {x:Int} {g off:Nat} (h:OwnO w B (.slice (some ⟨g,off,none⟩) n cap) (x::xs)):OwnO w B (.slice (if cap=1 then some ⟨g,off,none⟩else some ⟨g,off+1,none⟩) (n - 1) (cap - 1)) xs∧n=xs.length+1∧n≤cap:=by
 rcases h with ⟨h,_⟩ | ⟨g',off',cap',cur,hv,hb,hg,hc,hcm,hcs,ht⟩
 ·cases h
 ·injection hv with e1 e2 e3
  injection e1 with e1
  injection e1 with e1 e4 _
  subst e1 e2 e3 e4
  simp only [List.length_cons]at hc ht⊢
  refine ⟨?_,by first | rfl | trivial,hc⟩
  by_cases hc1:cap=1
  ·have hx0:xs= []:=List.eq_nil_of_length_eq_zero oM
   subst hx0
   rw [if_pos hc1]
   exact .inr ⟨g,off,cap - 1,cur,by simp,hb,hg,by simp,by omega,by omega,by simp⟩
  rw [if_neg hc1]
  refine .inr ⟨g,off+1,cap - 1,cur,by simp,hb,hg,by omega,by omega,by omega,?_⟩
  have h1:cap≤(cur.toList.drop off).length:=by simp;omega
  cases hd:cur.toList.drop off with
  | nil=>rw [hd]at h1;simp at h1;omega
  | cons y ys=>
   have h2:cur.toList.drop (off+1)=ys:=by rw [←List.drop_drop,hd];rfl
   rw [h2]
   rw [hd,List.take_succ_cons]at ht
   simp only [List.flatMap_cons,intC,List.singleton_append]at ht
   injection ht
end
section
variable {P : Program} (w : World)
theorem jc (t ty e:TypeId) (i:TypeInfo) (ht:P.underlying t=some (.slice e)) (hi:P.info? e=some i)
  (g off sLen sCap:Nat) (cur:Array Value) (hg:w.heap[g]?=some (.cells cur e (0,0)))
  (a:Addr) (m c:Nat) (news:List Value) (hl:news.length=m*i.size) (hnews:∀j u,news[j]?=some u→w.cell? (a.add j)=some u) (h1:∀u∈news,u.oneCell'=true)
  (hroom:sLen+m≤sCap) (hfit:off+sLen*i.size+news.length≤cur.size):
  (Builtin.append_ #[t,t] ty #[.slice (some ⟨g,off,none⟩) sLen sCap,.slice (some a) m c]).run P w=
   .ok (.slice (some ⟨g,off,none⟩) (sLen+m) sCap) (w.setRow g (cur.toList.take (off+sLen*i.size)++news++cur.toList.drop (off+sLen*i.size+news.length)).toArray):=by
 have hf:=run_firstCells_some (P:=P) w i.size m a m c news hl hnews
 have hst:=run_storeCells_at P g (off+sLen*i.size) e news 0 cur w hg (by simpa using hfit) h1
 simp only [Nat.add_zero]at hst
 have ha:(⟨g,off,none⟩:Addr).add (sLen*i.size)=⟨g,off+sLen*i.size,none⟩:=by unfold Addr.add;split <;>simp_all
 simp [Builtin.append_,run_underlying ht,sizeOf,typeInfo,hi,Builtin.lenOf,hroom,hf,ha,hst]
end
section
variable {w : World} {B : Nat} {v : Value} {xs : List Int}
theorem pB (ty:TypeId) (h:OwnO w B v xs) (x:Int) (ad:Addr) (c:Nat) (hr:w.cell? (ad.add 0)=some (.int .i64 x)) (hlen:xs.length≤10000000) (hB:B≤w.heap.size):
  ∃v' w',(Builtin.append_ #[38,38] ty #[v,.slice (some ad) 1 c]).run Tryz.prog w= .ok v' w'∧OwnO w' B v' (xs++ [x])∧w.grownBy w' v.ownBlock∧(v'.ownBlock=v.ownBlock∨v'.ownBlock=some w.heap.size):=by
 obtain ⟨i,z,hi,hz,hs,hby,hzs⟩:=bj.inf
 have ht:=bj.und
 have hnews:∀(j:Nat) (u:Value),[Value.int .i64 x][j]?=some u→w.cell? (ad.add j)=some u:=by
  intro j u hj
  cases j with
  | zero=>simp at hj;subst hj;exact hr
  | succ j=>simp at hj
 have h1:∀u∈ [Value.int .i64 x],u.oneCell'=true:=by simp;rfl
 rcases h with ⟨rfl,rfl⟩ | ⟨g,off,cap,cur,rfl,hb,hg,hc,hcm,hcs,htk⟩
 ·have hr':=run_append_own_at (P:=Tryz.prog) w B 38 ty 3 i z 1 8 ht hi hz hs hby hzs dM (.slice none 0 0) 0 [] (World.ownsRow_nil w B 3 1) ad 1 c [.int .i64 x] rfl hnews h1 (by simp [maxLen]) oM hB
  obtain ⟨v',w',h2,h3,h4,h5⟩:=hr'
  refine ⟨v',w',h2,OwnO.of ?_,h4,h5.2⟩
  exact h3
 ·by_cases hroom:xs.length+1≤cap
  ·have hr':=jc (P:=Tryz.prog) w 38 ty 3 i ht hi g off xs.length cap cur hg ad 1 c [.int .i64 x] (by rw [hs];rfl) hnews h1 hroom (by rw [hs];simp;omega)
   rw [hs,Nat.mul_one]at hr'
   refine ⟨_,_,hr',.inr ⟨g,off,cap,_,by simp,hb,setRow_heap w g cur _ 3 _ hg,by simpa using hroom,hcm,?_,?_⟩,⟨rfl,rfl,rfl,by simp,fun k _ hk=>setRow_other w g k _ (fun e=>hk (by simp [Value.ownBlock,e]))⟩,.inl rfl⟩
   ·simp only [List.size_toArray,List.length_append,List.length_take,List.length_drop,Array.length_toList,List.length_singleton]
    omega
   ·simp only [List.length_append,List.length_singleton,List.flatMap_append]
    have hlt:(cur.toList.take (off+xs.length)).length=off+xs.length:=by simp;omega
    rw [List.append_assoc,List.drop_append_of_le_length (by rw [hlt];omega),List.drop_take,show off+xs.length - off=xs.length by omega,htk]
    have hfl:(xs.flatMap intC).length=xs.length:=by have:=cU aO xs;omega
    rw [List.take_append,hfl,List.take_of_length_le oM,show xs.length+1 - xs.length=1 by omega]
    rfl
  ·have holds : ∀ j u, (xs.flatMap intC)[j]? = some u → w.cell? ((⟨g, off, none⟩ : Addr).add j) = some u := by
    intro j u hj
    have ha:(⟨g,off,none⟩:Addr).add j=⟨g,off+j,none⟩:=by unfold Addr.add;split <;>simp_all
    rw [ha,(aB hg).1 (off+j)]
    rw [←htk]at hj
    have hjl:j < xs.length:=by
     have h3:=(List.getElem?_eq_some_iff.1 hj).1
     simp only [List.length_take]at h3
     omega
    rw [List.getElem?_take_of_lt hjl,List.getElem?_drop]at hj
    simpa using hj
   have hfl:(xs.flatMap intC).length=xs.length:=by have:=cU aO xs;omega
   have hr':=run_append_grow (P:=Tryz.prog) w 38 ty 3 i z ht hi hz ⟨g,off,none⟩ xs.length cap (xs.flatMap intC) (by rw [hfl,hs];omega) holds ad 1 c [.int .i64 x] (by rw [hs];rfl) hnews oM oM (by rw [hby];exact growslice_fits oM oM)
   have hge:=grownCap_ge w (xs.length+1) cap 3
   have hcm':grownCap w (xs.length+1) cap 3≤maxLen:=grownCap_le_maxLen w (xs.length+1) cap 3 (by simp [maxLen];omega)
   refine ⟨_,_,hr',OwnO.of ⟨?_,.inr ⟨w.heap.size,_,_,by simp,hB,heap_alloc_new w.drew _,by simpa using hge,hcm',?_,?_⟩⟩,⟨rfl,rfl,rfl,by simp,fun k hk _=>RowKit.Below.heap_alloc w.drew _ k hk⟩,.inr rfl⟩
   ·have:=cU aO (xs++ [x]);omega
   ·simp only [Array.size_append,List.size_toArray,size_zeroCells,hzs,hfl,List.length_singleton]
    omega
   ·simp only [Array.toList_append,List.append_assoc,List.flatMap_append]
    rw [←List.append_assoc,show ((xs++ [x]).length*1)=(xs.flatMap intC++ [x].flatMap intC).length by simp [hfl,intC]]
    exact List.take_left
theorem qf {o:Oper} {a:Act} {K:Act→World→Prop} {Q:Exit→Act→World→Prop} (s y:Operand)
  (ho:o.op= .call {callee:= .builtin .append,args:= #[s,y],argTypes:= #[38,38]}) (hs:a.eval s=v) (h:OwnO w B v xs) (x:Int) (ad:Addr) (c:Nat) (hy:a.eval y= .slice (some ad) 1 c) (hr:w.cell? (ad.add 0)=some (.int .i64 x)) (hlen:xs.length≤10000000) (hB:B≤w.heap.size)
  (hk:∀v' w',OwnO w' B v' (xs++ [x])→w.grownBy w' v.ownBlock→(v'.ownBlock=v.ownBlock∨v'.ownBlock=some w.heap.size)→K (a.put o.dst v') w'):o.wp Tryz.prog a w K Q:=by
 obtain ⟨v',w',hr',h2,h3,h4⟩:=pB o.type h x ad c hr hlen hB
 unfold Oper.wp execOp
 simp only [ho,resolve,invoke,builtin,Sem.run_bind,Sem.run_pure,Result.andThen_ok,List.map_toArray,List.map_cons,List.map_nil,hs,hy,hr']
 exact hk v' w' h2 h3 h4
end
def ww (v:Value):Option (DataW Value×List MemPlace):=some (.held v,[])
theorem wx (w:World):(zeroValue 38).run Tryz.prog w= .ok (.slice none 0 0) w:=by kernel_rfl
def MapV (w:World) (b n:Nat) (f:Int→Value):Prop:=
 ∃D:DataW Value,w.ownsMap Tryz.prog 3 ww b n D∧IsMap D∧∀x,D.atKey (keyI x) (.held (.slice none 0 0))= .held (f x)
section
variable {w w' : World} {b n : Nat} {f : Int → Value}
theorem MapV.made (w:World):MapV (w.alloc (.map #[] 0)) w.heap.size 0 (fun _=> .slice none 0 0):=⟨.map [],World.ownsMap_made _ _ _ _,isMap_empty,fun x=>rfl⟩
theorem MapV.lt (h:MapV w b n f):b < w.heap.size:=by obtain ⟨D,h1,_⟩:=h;exact h1.lt
theorem MapV.kept {row:Option Nat} (h:MapV w b n f) (hg:w.grownBy w' row) (hne:some b≠row):MapV w' b n f:=by
 obtain ⟨D,h1,h2⟩:=h;exact ⟨D,h1.kept hg hne,h2⟩
theorem MapV.same (h:MapV w b n f) (hs:w'.heap[b]?=w.heap[b]?):MapV w' b n f:=by
 obtain ⟨D,⟨es,clock,hb,r⟩,h2⟩:=h
 exact ⟨D,⟨es,clock,hs.trans hb,r⟩,h2⟩
theorem MapV.ext (h:MapV w b n f) (hx:Ext w w'):MapV w' b n f:=h.same (hx.block h.lt)
theorem MapV.setCell (h:MapV w b n f) {a:Addr} (ha:b≠a.block) (u:Value):MapV (w.setCell a u) b n f:=by
 obtain ⟨D,h1,h2⟩:=h;exact ⟨D,h1.setCell ha u,h2⟩
theorem MapV.ne (h:MapV w b n f) {g:Nat} {cs:Array Value} {t:TypeId} {r:Nat×Nat} (hg:w.heap[g]?=some (.cells cs t r)):b≠g:=fun e=>by
 obtain ⟨D,⟨es,clock,hb,_⟩,_⟩:=h
 rw [e,hg]at hb
 cases hb
theorem MapV.look (h:MapV w b n f) {x:Int} (hk:(Lit.int .i64 x).wf=true):(Instr.lookup 200 (.map (some b)) (.int .i64 x) false).run Tryz.prog w= .ok (f x) w:=by
 obtain ⟨D,h1,h2,h3⟩:=h
 obtain ⟨v,ps,hrun,hv⟩:=h1.lookup eE Tryz.underlying200 (wx w) (zd:= .held (.slice none 0 0)) (zp:= []) rfl (keyOf_int_mk Tryz.underlying3 hk)
 have:=h3 x
 unfold keyI at this
 rw [this]at hv
 simp only [ww,Option.some.injEq,Prod.mk.injEq]at hv
 obtain ⟨hv,_⟩:=hv
 injection hv with hv
 rw [hrun,hv]
theorem ed {ops:Array Oper} {rest:List Oper} {o:Oper} {a:Act} {Q:Exit→Act→World→Prop} (hg:o.guard=none) (m x y:Operand) (hop:o.op=Op.mapUpdate 200 m x y) (h:MapV w b n f) (hm:a.eval m= .map (some b)) (hn:n < maxLen) (k:Int) (v:Value) (hx:a.eval x= .int .i64 k) (hv:a.eval y=v) (hk:(Lit.int .i64 k).wf=true)
  (hK:∀w',MapV w' b (n+1) (fun y=>if y=k then v else f y)→w.grownBy w' (some b)→wpList Tryz.prog ops Q rest (a.put o.dst undef) w'):wpList Tryz.prog ops Q (o::rest) a w:=by
 obtain ⟨D,h1,h2,h3⟩:=h
 refine wpList_mapUpdate_own w hg m x y 200 hop 3 38 eE Tryz.underlying200 ww b n D hm h1 hn (.int .i64 k) v (keyI k) hx hv (keyOf_int_mk Tryz.underlying3 hk) (.held v) [] rfl ?_
 intro w' ho hgr
 refine hK w' ⟨_,ho,h2.put _ _,fun y=> ?_⟩ hgr
 by_cases hy:y=k
 ·subst hy
  simp only [if_true]
  exact atKey_put_same h2 (show WideAt.IsKeyLit (keyI y)from trivial) _ _
 ·simp only [if_neg hy]
  have hne:keyI y≠keyI k:=fun e=>hy (by injection e)
  rw [atKey_put_other hne]
  exact h3 y
end
end Go.Proofs.YtphpppjfogpohaaGreat
