/- Merged by program (merge.py) out of: RchJ, RchK, RchL, RchM, RchN. -/
import Derived.Test.YtphpppjfogpohaaGreatMy0
import Derived.Handy
import Derived.Test.YtphpppjfogpohaaGreatMy38
set_option linter.unusedSimpArgs false
set_option linter.unusedVariables false
set_option maxRecDepth 100000
set_option maxHeartbeats 16000000
namespace Go.Proofs.YtphpppjfogpohaaGreat
open Go.RowKit Go.Shelf
def KpT (w w':World):Prop:=∀(g:Nat) (cs:Array Value) (t:TypeId) (r:Nat×Nat),w.heap[g]?=some (.cells cs t r)→t≠3→t≠4→t≠202→w'.heap[g]?=some (.cells cs t r)
section
variable {u w w' : World}
theorem KpT.of_ext (h:Ext w w'):KpT w w':=fun g cs t r hg _ _ _=>(h.block (aA hg)).trans hg
abbrev zy := @KpT.of_ext
theorem KpT.trans (h:KpT u w) (k:KpT w w'):KpT u w':=fun g cs t r hg h1 h2 h3=>k g cs t r (h g cs t r hg h1 h2 h3) h1 h2 h3
theorem KpT.own {α:Type} {e:TypeId} {n:Nat} {f:α→List Value} {B:Nat} {v:Value} {xs:List α} (h:Own e n f w B v xs) (he:e=3∨e=4) (hg:w.grownBy w' v.ownBlock):KpT w w':=fun g cs t r hc h1 h2 h3=>(hg.block g (aA hc) (h.ne_block hc (by rcases he with rfl | rfl;exact h1;exact h2))).trans hc
theorem KpT.ownO {B:Nat} {v:Value} {xs:List Int} (h:OwnO w B v xs) (hg:w.grownBy w' v.ownBlock):KpT w w':=fun g cs t r hc h1 h2 h3=>(hg.block g (aA hc) (fun e=>by
 obtain ⟨cur,hx⟩:=eU h e.symm
 rw [hc]at hx
 injection hx with hx
 injection hx with _ hx
 exact h1 hx)).trans hc
theorem KpT.map {b n:Nat} {f:Int→Value} (h:MapV w b n f) (hg:w.grownBy w' (some b)):KpT w w':=fun g cs t r hc h1 h2 h3=>(hg.block g (aA hc) (fun e=>h.ne hc (by injection e with e;exact e.symm))).trans hc
theorem KpT.set {b i:Nat} {x:Value} {ds:Array Value} {t2:TypeId} {r2:Nat×Nat} (hb:w.heap[b]?=some (.cells ds t2 r2)) (ht:t2=3∨t2=4∨t2=202):KpT w (w.setCell ⟨b,i,none⟩ x):=fun g cs t r hc h1 h2 h3=>bC hc _ (fun e=>by
 subst e
 rw [hb]at hc
 injection hc with hc
 injection hc with _ hc
 subst hc
 rcases ht with h | h | h
 ·exact h1 h
 ·exact h2 h
 ·exact h3 h)
end
def jE (V0:World) (G:GraphD) (lim blk b K:Nat) (p:PlD) (v:Int×Int) (V:World) (e:Ending) (w':World):Prop:=e= .returned (.bool (newP (envG G lim blk) p v))∧PP V0 G lim blk b K (meetP (envG G lim blk) false p v) w'∧KpT V w'
section
variable {V0 : World} {G : GraphD} {lim blk b K : Nat} {p : PlD} {V : World}
theorem us (h:PP V0 G lim blk b K p V) (v:Int×Int) (hv:v.1≠2):
  Calls Tryz.prog 232 #[.pointer (some ⟨b,0,none⟩),.agg #[.int .i64 v.1,.int .i64 v.2]] V (jE V0 G lim blk b K p v V):=by
 obtain ⟨k,x⟩:=v
 have hf:p.fresh (k,x)=false:=by simp [PlD.fresh];exact fun e=>absurd e hv
 have e1:newP (envG G lim blk) p (k,x)=false:=by simp [newP,hf]
 have e2:meetP (envG G lim blk) false p (k,x)=p:=by simp [meetP,hf]
 have d0:(k !=2)=true:=by simpa using hv
 have hx0:=(zo V).alloc (.cells #[.int .i64 k,.int .i64 x] 71)
 have hB:=aF V #[.int .i64 k,.int .i64 x] 71 _ rfl
 have HP:=zH (h.grow hx0)
 have HX:=zH hx0
 unfold jE
 rw [e1,e2]
 clear h hv hf e1 e2 hx0
 go_enter Tryz.func232,Tryz.ntmps232
 go_wp2_with fail
 generalize V.alloc (.cells #[.int .i64 k,.int .i64 x] 71)=W at*
 have l0:=hB.cells
 have hs0:Ext W W:=zo _
 (refine aC (W:=W) kR kR aS ?_;(repeat (go_big_quiet_step (fail)));refine wpQuiet_nil ?_;intro w1 hx)
 go_wp2_with fail
 go_ret
 exact ⟨rfl,HP.out.grow hx,zy (HX.out.trans hx)⟩
theorem ut (h:PP V0 G lim blk b K p V) (x:Nat) (hx:x < G.ns.length) (hm:x∈p.small++p.large):
  Calls Tryz.prog 232 #[.pointer (some ⟨b,0,none⟩),.agg #[.int .i64 2,.int .i64 x]] V (jE V0 G lim blk b K p (2,x) V):=by
 have hf:p.fresh (2,(x:Int))=false:=by
  cases hc:p.fresh (2,(x:Int))with
  | false=>rfl
  | true=>exact absurd hm (by have:=(AH.1 hc).2;simpa using this)
 have e1:newP (envG G lim blk) p (2,(x:Int))=false:=by simp [newP,hf]
 have e2:meetP (envG G lim blk) false p (2,(x:Int))=p:=by simp [meetP,hf]
 have hx0:=(zo V).alloc (.cells #[.int .i64 2,.int .i64 x] 71)
 have hB:=aF V #[.int .i64 2,.int .i64 x] 71 _ rfl
 have HP:=zH (h.grow hx0)
 have HX:=zH hx0
 obtain ⟨sv,bv,kv,lv,pv,mv,mp,nm,f,Y,fi,hq⟩:=h.grow hx0
 obtain ⟨mA,mc,rfl, -, -, -,hmc, -⟩:=hq.pr.om.form dK dM
 obtain ⟨mg,rfl,_,_⟩:=cT hq.pr.om (fun e=>by have:=bw (n:=G.ns.length) (p:=p);rw [e]at this;simp at this;omega)
 have cm:=eO hq.pr.om rfl (k:=x) (by rw [bw];exact hx)
 rw [ea hx,AJ.2 hm]at cm
 have hl:=hq.cel
 rw [bw]at hl
 unfold jE
 rw [e1,e2]
 have jx0:(0:Int)≤(x:Int):=by omega
 have jx1:(x:Int) < (G.ns.length:Int):=by omega
 clear h hf e1 e2 hx0 hm hq hmc
 go_enter Tryz.func232,Tryz.ntmps232
 go_wp2_with fail
 generalize V.alloc (.cells #[.int .i64 2,.int .i64 x] 71)=W at*
 have l0:=hB.cells
 have l1:=(aO hl).cells
 have l2:=aG cm
 have hs0:Ext W W:=zo _
 (refine aC (W:=W) kR kR aS ?_;(repeat (go_big_quiet_step (fail)));refine wpQuiet_nil ?_;intro w1 hx)
 go_wp2_with fail
 go_ret
 exact ⟨rfl,HP.out.grow hx,zy (HX.out.trans hx)⟩
end
theorem jF {w w':World} {H Z:Nat} {o:Obj} {row:Option Nat} (h:w.heap[H]?=some o) (hg:w.grownBy w' row) (hr:∀g,row=some g→g < Z) (hz:Z≤H):w'.heap[H]?=some o:=
 (hg.block H (aA h) (fun e=>by have:=hr H e.symm;omega)).trans h
section
variable {V0 : World} {G : GraphD} {lim blk b K : Nat} {p : PlD} {V : World}
theorem PP.addL {sv bv kv lv pv mv lv' pv':Value} {mp nm fi x:Nat} {f:Int→Value} {Y:Int→List Nat} {w:World} (hc:BoxK b #[.slice G.nA G.ns.length G.ncap,.slice G.rA G.rs.length G.rcap,.int .i64 lim,.int .i64 blk,mv,sv,lv,bv,.int .i64 p.top,pv,.map (some mp),.int .i64 fi,kv] 202 w)
  (hpr:PR V0 sv bv kv lv' pv' mv mp nm f Y (metL G.ns.length (p.addL x)) (p.addL x) w) (hlo:V0.heap.size≤b) (hnx:NxtOk blk p Y) (hnm:nm≤K+p.met) (hf:Fst p fi):PP V0 G lim blk b K (p.addL x) ((w.setCell ⟨b,6,none⟩ lv').setCell ⟨b,9,none⟩ pv')∧KpT w ((w.setCell ⟨b,6,none⟩ lv').setCell ⟨b,9,none⟩ pv'):=
 ⟨⟨sv,bv,kv,lv',pv',mv,mp,nm,f,Y,fi,aL (aL hc _) _,(hpr.far hc dM dM hlo).far (aL hc _) dM dM hlo,hlo,hnx,by rw [show (p.addL x).met=p.met+1 from by simp only [PlD.met,PlD.addL,List.length_append,List.length_singleton];omega];omega,hf⟩,
  (KpT.set hc (.inr (.inr rfl))).trans (KpT.set (aL hc _) (.inr (.inr rfl)))⟩
theorem qy (h:PP V0 G lim blk b K p V) (hV:GraphAt V0 G) (x:Nat) (ho:PlOk (envG G lim blk) p) (ht:TopOk p) (hG:RchG G lim blk) (hxn:x < G.ns.length) (hm:x∉p.small++p.large) (hz:lim < (envG G lim blk).sz x):
  Calls Tryz.prog 232 #[.pointer (some ⟨b,0,none⟩),.agg #[.int .i64 2,.int .i64 x]] V (jE V0 G lim blk b K p (2,x) V):=by
 have hf:p.fresh (2,(x:Int))=true:=AH.2 ⟨rfl,by simpa using hm⟩
 have hmet:=ho.met_le
 have hn:=hG.n
 rw [bQ]at hmet
 unfold PlD.met at hmet
 obtain ⟨z1,z2⟩:=hG.sz x hxn
 have e1:newP (envG G lim blk) p (2,(x:Int))=decide ((envG G lim blk).sz x≤lim):=by simp [newP,hf];rfl
 have e2:meetP (envG G lim blk) false p (2,(x:Int))=if lim < (envG G lim blk).sz x then p.addL x else p.addS false x ((envG G lim blk).sz x):=by simp only [meetP,hf,if_true];rfl
 have hx0:=(zo V).alloc (.cells #[.int .i64 2,.int .i64 x] 71)
 have hB:=aF V #[.int .i64 2,.int .i64 x] 71 _ rfl
 obtain ⟨sv,bv,kv,lv,pv,mv,mp,nm,f,Y,fi,hq⟩:=h.grow hx0
 obtain ⟨mA,mc,rfl, -, -, -,hmc, -⟩:=hq.pr.om.form dK dM
 rw [bw]at hq
 obtain ⟨mg,rfl,_,_⟩:=cT hq.pr.om (fun e=>by have:=bw (n:=G.ns.length) (p:=p);rw [e]at this;simp at this;omega)
 obtain ⟨sA,sc,rfl, -⟩:=hq.pr.os.form aP dM
 rw [aW]at hq
 have cm:=eO hq.pr.om bw (k:=x) hxn
 rw [ea hxn,show p.has x=false by cases hc:p.has x with | false=>rfl | true=>exact absurd (AJ.1 hc) hm]at cm
 obtain ⟨mcur,hmcur⟩:=ci hq.pr.om
 have fm:=(aB hmcur).2
 obtain ⟨nb,noff,hA,hcn⟩:=hV.nodes.row.get oM
 obtain ⟨d0,d1,d2⟩:=bB hcn hxn
 have hbm:b≠mg:=fun e=>by have:=hq.cel;rw [e,hmcur]at this;injection this with this;injection this with _ this;exact absurd this dM
 have hnm:nb≠mg:=fun e=>by have h1:=oO d0;have h2:=(bM hq.pr.om rfl).1;omega
 have hcel:=hq.cel
 rw [hA]at hcel
 have HPR0:=zH hq.pr
 have D0:=zH d0
 have D1:=zH d1
 have D2:=zH d2
 have HX0:=zH (zy hx0)
 have HML:=zH (bw (n:=G.ns.length) (p:=p))
 have HLO:=zH hq.lo
 have HNX:=zH hq.nx
 have HNM:=zH hq.nmk
 have HFS:=zH hq.fst
 have HBLL:=zH (And.intro ho.bl ho.ll)
 generalize (envG G lim blk).sz x=z at*
 have HS:=zH (fun W=>ki (G.ns.getD x default) W)
 rw [z2]at HS
 have jx0:(0:Int)≤(x:Int):=by omega
 have jx1:(x:Int) < (G.ns.length:Int):=by omega
 have hpl:p.pile.length≤1000:=by have:=ht.2.1;omega
 have htp:p.top≤9000000:=by have:=ht.1;omega
 have hbl:p.begins.length≤1000:=by have:=ho.bl;omega
 have hll:p.lk.length≤1000:=by have:=ho.ll;omega
 have HBK:Hid (1≤blk):=zH hG.bk.1
 have HMS:=zH (nP (n:=G.ns.length) (p:=p) hxn)
 have HMS2:=zH (nQ (n:=G.ns.length) (p:=p) (mk:=false) (s:=z) hxn)
 have HA:=zH hA
 have HMC:=zH hmcur
 clear hm hf hq hmc hV hG ho ht hcn d0 d1 d2 hmcur hxn hA fm
 generalize G.ns.getD x default=y at*
 unfold jE
 rw [e1,e2,if_pos hz,show decide (z≤lim)=false by simpa using hz]
 have dz:decide (lim < z)=true:=by simpa using hz
 clear e1 e2 hx0 hz
 have k1:=(aB hcel).1
 go_enter Tryz.func232,Tryz.ntmps232
 go_wp2_with fail
 have l0:=hB.cells
 have l1:=(aO hcel).cells
 have l2:=aG cm
 have hs0:=zo (V.alloc (.cells #[.int .i64 2,.int .i64 x] 71))
 generalize hW:V.alloc (.cells #[.int .i64 2,.int .i64 x] 71)=W at*
 (refine aC (W:=W) kR kR aS ?_;(repeat (go_big_quiet_step (fail)));refine wpQuiet_nil ?_;intro w1 hx)
 have k0:=(aB (hB.at hx)).1
 have hcel1:=(hx.block (aA hcel)).trans hcel
 have k2:=(aB hcel1).1
 have k3:=hx.cell cm
 have hmc1:=(hx.block (aA HMC.out)).trans HMC.out
 have fm:=(aB hmc1).2
 have hpr1:=HPR0.out.grow hx
 have g0:=hpr1.ext.cell D0.out
 have g1:=hpr1.ext.cell D1.out
 have g2:=hpr1.ext.cell D2.out
 have HPR:=zH (hpr1.setM rfl HML.out x)
 have HCEL:=zH (bC hcel1 (.bool true) hbm (i:=x))
 have HKP:=zH ((HX0.out.trans (zy hx)).trans (KpT.set hmc1 (.inr (.inl rfl)) (i:=x) (x:= .bool true)))
 clear hx hs0 l0 l1 l2 hcel cm hcel1 hmc1 hpr1 HMC HX0 hB HPR0 k1 hW
 go_wp2_with fail
 refine (HS.out _).mono ?_
 rintro e w2 ⟨rfl,hx⟩
 replace HPR:=zH (HPR.out.grow hx)
 replace HCEL:=zH (AB HCEL.out hx)
 replace HKP:=zH (HKP.out.trans (zy hx))
 clear hx k0 k2 k3 fm g0 g1 g2 D0 D1 D2 HS
 have k1:=(aB HCEL.out).1
 go_wp2_with fail
 have hyd:=(zo w2).drew
 have hGP:BoxK b #[.slice (some ⟨nb,noff,none⟩) G.ns.length G.ncap,.slice G.rA G.rs.length G.rcap,.int .i64 lim,.int .i64 blk,.slice (some ⟨mg,0,none⟩) G.ns.length mc,.slice sA p.small.length sc,lv,bv,.int .i64 p.top,pv,.map (some mp),.int .i64 fi,kv] 202 w2.drew:=AB HCEL.out hyd
 have gB:=hGP.cells
 (refine dI (w:=w2) (fun _=>True) (.rd [1] (.wk [16,17,18,19,20,21] (.rd [0,2,3,4,5,6,9,10,11,12,13] (.fk 7 (.fk 8 (.one 14 (.one 15 .tl)) 14 (.one 8 (.one 15 .tl))) 14 (.one 7 (.one 8 (.one 15 .tl))))))) [] kR kR (by intro c a d v w h;first | exact h | (cases d <;>first | exact h | (cases h;done) | cases h.1.1 | cases h.1)) trivial ?_;(refine jZ ?_;(try simp only [aI,List.map_cons,List.map_nil,List.getD_cons_zero,List.getD_cons_succ]);(repeat (go_big_quiet_step (fail)));refine wpQuiet_nil ?_);refine ya (fun _=>trivial) (fun w'=>∃u:KeptOf (w2).drew (BoxK b #[.slice (some ⟨nb,noff,none⟩) G.ns.length G.ncap,.slice G.rA G.rs.length G.rcap,.int .i64 lim,.int .i64 blk,.slice (some ⟨mg,0,none⟩) G.ns.length mc,.slice sA p.small.length sc,lv,bv,.int .i64 p.top,pv,.map (some mp),.int .i64 fi,kv] 202),w'=u.1) (ae hGP) ?_)
 (refine jZ ?_;(try simp only [aI,List.map_cons,List.map_nil,List.getD_cons_zero,List.getD_cons_succ]);(repeat (go_big_quiet_step (fail)));refine wpQuiet_nil ?_)
 replace HPR:=zH (HPR.out.grow hyd)
 replace HCEL:=zH hGP
 replace HKP:=zH (HKP.out.trans (zy hyd))
 clear hyd hGP gB k1
 generalize w2.drew=wN at*
 have HLT0:=zH HPR.out.lt
 have HZ:=zH (Nat.le_refl wN.heap.size)
 obtain ⟨Z,hZ⟩:∃Z,wN.heap.size=Z:=⟨_,rfl⟩
 have HLT:Hid (∀v∈ [.slice sA p.small.length sc,bv,kv,lv,pv,.slice (some ⟨mg,0,none⟩) G.ns.length mc],∀g,v.ownBlock=some g→g < Z):=zH (fun v hv g hg=>by rw [←hZ];exact HLT0.out v hv g hg)
 replace HZ:Hid (Z≤wN.heap.size):=zH oM
 clear HLT0 hZ
 repeat' (first | (refine rL ?_ ?_ ?_) | (refine s6 ?_ ?_) | (refine cE (i:=7) gD rM ?_;intro K hK;go_simp;refine hK _ _ _ (fun _ h=>h) (ae (AB HCEL.out ((zo wN).alloc (.cells #[.int .i64 x] 3)))) ?_;clear hK K;have hy:=(zo wN).alloc (.cells #[.int .i64 x] 3);(try replace L14:=zH (AB L14.out hy));have L7:=zH (aN wN #[.int .i64 x] 3 _ rfl);have Z7:Hid (Z≤wN.heap.size):=HZ;replace HPR:=zH (HPR.out.grow hy);replace HCEL:=zH (AB HCEL.out hy);replace HKP:=zH (HKP.out.trans (zy hy));replace HZ:=zH (Nat.le_trans HZ.out hy.size);clear hy;generalize wN.alloc (.cells #[.int .i64 x] 3)=wM at*;generalize wN.heap.size=H7 at*;(try clear wN);rename World=>wN) | (refine cE (i:=8) gD rM ?_;intro K hK;refine fZ (.tmp 49) (.tmp 51) 38 rfl cd aP rM HPR.out.ol ⟨H7,0,none⟩ 1 [(x:Int)] (p.large.length+1) 1 (by simp [ordZ]) rfl rM (ep L7.out rfl aP dM) oM (by simp [maxLen];omega) HPR.out.ext.size ?_;intro A8 c8 wM ho hg ht;rw [gC]at ho;have hcel2:=eT HPR.out.ol HCEL.out hg dM;refine hK _ _ _ (fun _ h=>h) (ae hcel2) ?_;clear hK K;(try replace L14:=zH (jF L14.out hg (fun g e=>HLT.out lv sM g e) Z14.out));replace HKP:=zH (HKP.out.trans (KpT.own HPR.out.ol (.inl rfl) hg));replace HCEL:=zH hcel2;replace HZ:=zH (Nat.le_trans HZ.out hg.size);replace HPR:=zH (HPR.out.turn_l ho hg (ht.imp id fun h=> .inr ⟨_,Nat.le_refl _,h⟩));clear hcel2 ho hg ht;(try clear wN);rename World=>wN) | (refine cE (i:=14) gD rM ?_;intro K hK;go_simp;refine hK _ _ _ (fun _ h=>h) (ae (AB HCEL.out ((zo wN).alloc (.cells #[.int .i64 x] 3)))) ?_;clear hK K;have hy:=(zo wN).alloc (.cells #[.int .i64 x] 3);(try replace L7:=zH (AB L7.out hy));have L14:=zH (aN wN #[.int .i64 x] 3 _ rfl);have Z14:Hid (Z≤wN.heap.size):=HZ;replace HPR:=zH (HPR.out.grow hy);replace HCEL:=zH (AB HCEL.out hy);replace HKP:=zH (HKP.out.trans (zy hy));replace HZ:=zH (Nat.le_trans HZ.out hy.size);clear hy;generalize wN.alloc (.cells #[.int .i64 x] 3)=wM at*;generalize wN.heap.size=H14 at*;(try clear wN);rename World=>wN) | (refine cE (i:=15) gD rM ?_;intro K hK;refine fZ (.tmp 56) (.tmp 58) 38 rfl cd aP rM HPR.out.op ⟨H14,0,none⟩ 1 [(x:Int)] (p.pile.length+1) 1 (by simp [ordZ]) rfl rM (ep L14.out rfl aP dM) oM (by simp [maxLen];omega) HPR.out.ext.size ?_;intro A15 c15 wM ho hg ht;rw [gC]at ho;have hcel2:=eT HPR.out.op HCEL.out hg dM;refine hK _ _ _ (fun _ h=>h) (ae hcel2) ?_;clear hK K;replace HKP:=zH (HKP.out.trans (KpT.own HPR.out.op (.inl rfl) hg));replace HCEL:=zH hcel2;replace HZ:=zH (Nat.le_trans HZ.out hg.size);replace HPR:=zH (HPR.out.turn_p ho hg (ht.imp id fun h=> .inr ⟨_,Nat.le_refl _,h⟩));clear hcel2 ho hg ht;(try clear wN);rename World=>wN))
 all_goals ((refine kW ?_;(try simp only [aI,List.map_cons,List.map_nil,List.getD_cons_zero,List.getD_cons_succ]));have hcel:=HCEL.out;have k1:=(aB hcel).1;have f1:=(aB hcel).2;clear hcel;go_wp2_with fail;go_ret;have hfin:=PP.addL (K:=K) (x:=x) (by rw [HA.out];exact HCEL.out) (by rw [HMS.out];exact HPR.out) HLO.out HNX.out HNM.out HFS.out;exact ⟨rfl,hfin.1,HKP.out.trans hfin.2⟩)
end
theorem xC {w:World} {H:Nat} {v:Value} {t:TypeId} (h:w.heap[H]?=some (.cells #[v] t (0,0))):w.cell? ((⟨H,0,none⟩:Addr).add 0)=some v:=by
 have h2:=(aB h).1 0
 have e:(⟨H,0,none⟩:Addr).add 0=⟨H,0,none⟩:=by unfold Addr.add;split <;>simp_all
 rw [e,h2]
 rfl
theorem xD {w:World} {m n:Nat} {f:Int→Value} {o:Oper} {a:Act} {K:Act→World→Prop} {Q:Exit→Act→World→Prop} (s y:Operand) (hop:o.op=Op.lookup 200 s y false) (h:MapV w m n f) (hs:a.eval s= .map (some m)) (c:Int) (hy:a.eval y= .int .i64 c) (hk:(Lit.int .i64 c).wf=true)
  (hK:K (a.put o.dst (f c)) w):o.wp Tryz.prog a w K Q:=by
 unfold Oper.wp
 simp [execOp,hop,hs,hy,h.look hk,Result.andThen]
 exact hK
theorem uu {w w':World} {B:Nat} {v:Value} {xs:List Int} (h:OwnO w B v xs) {b:Nat} {cs:Array Value} (hb:BoxK b cs 202 w) (hg:w.grownBy w' v.ownBlock):BoxK b cs 202 w':=
 (hg.block b (aA hb) (fun e=>by
  obtain ⟨cur,hc⟩:=eU h e.symm
  unfold BoxK at hb
  rw [hb]at hc
  injection hc with hc
  injection hc with _ hc
  exact absurd hc dM)).trans hb
theorem xE {a b:Nat} (h:a≤9000000) (h2:b≤9000):wrap64 ((a:Int)+(b:Int))=(a:Int)+(b:Int):=IntWalk.wrap64_in _ ⟨by omega,by omega⟩
theorem jY {w w':World} {m n:Nat} {f:Int→Value} (h:MapV w m n f) {b:Nat} {cs:Array Value} {t:TypeId} (hb:BoxK b cs t w) (hg:w.grownBy w' (some m)):BoxK b cs t w':=
 (hg.block b (aA hb) (fun e=>h.ne hb (by injection e with e;exact e.symm))).trans hb
section
variable {V0 : World} {G : GraphD} {lim blk b K : Nat} {p : PlD} {V : World}
theorem PP.addS {sv bv kv lv pv mv sv' bv' kv':Value} {mp nm fi x z:Nat} {f:Int→Value} {Y:Int→List Nat} {w:World} (hc:BoxK b #[.slice G.nA G.ns.length G.ncap,.slice G.rA G.rs.length G.rcap,.int .i64 lim,.int .i64 blk,mv,sv,lv,bv,.int .i64 p.top,pv,.map (some mp),.int .i64 fi,kv] 202 w)
  (hpr:PR V0 sv' bv' kv' lv pv mv mp (nm+1) f Y (metL G.ns.length (p.addS false x z)) (p.addS false x z) w) (hlo:V0.heap.size≤b) (hnx:NxtOk blk (p.addS false x z) Y) (hnm:nm≤K+p.met) (hf:Fst (p.addS false x z) fi):
  PP V0 G lim blk b K (p.addS false x z) ((((w.setCell ⟨b,5,none⟩ sv').setCell ⟨b,7,none⟩ bv').setCell ⟨b,12,none⟩ kv').setCell ⟨b,8,none⟩ (.int .i64 ((p.top:Int)+z)))∧KpT w ((((w.setCell ⟨b,5,none⟩ sv').setCell ⟨b,7,none⟩ bv').setCell ⟨b,12,none⟩ kv').setCell ⟨b,8,none⟩ (.int .i64 ((p.top:Int)+z))):=by
 have h1:=aL hc sv' (i:=5)
 have h2:=aL h1 bv' (i:=7)
 have h3:=aL h2 kv' (i:=12)
 have h4:=aL h3 (.int .i64 ((p.top:Int)+z)) (i:=8)
 refine ⟨⟨sv',bv',kv',lv,pv,mv,mp,nm+1,f,Y,fi,?_,(((hpr.far hc dM dM hlo).far h1 dM dM hlo).far h2 dM dM hlo).far h3 dM dM hlo,hlo,hnx,?_,hf⟩,?_⟩
 ·exact h4
 ·rw [show (p.addS false x z).met=p.met+1 from by simp only [PlD.met,PlD.addS,List.length_append,List.length_singleton];omega]
  omega
 ·exact (((KpT.set hc (.inr (.inr rfl))).trans (KpT.set h1 (.inr (.inr rfl)))).trans (KpT.set h2 (.inr (.inr rfl)))).trans (KpT.set h3 (.inr (.inr rfl)))
theorem qz (h:PP V0 G lim blk b K p V) (hK:K≤100000) (hV:GraphAt V0 G) (x:Nat) (ho:PlOk (envG G lim blk) p) (ht:TopOk p) (hG:RchG G lim blk) (hxn:x < G.ns.length) (hm:x∉p.small++p.large) (hz:(envG G lim blk).sz x≤lim):
  Calls Tryz.prog 232 #[.pointer (some ⟨b,0,none⟩),.agg #[.int .i64 2,.int .i64 x]] V (jE V0 G lim blk b K p (2,x) V):=by
 have HKB:=zH hK
 clear hK
 have hf:p.fresh (2,(x:Int))=true:=AH.2 ⟨rfl,by simpa using hm⟩
 have hmet:=ho.met_le
 have hn:=hG.n
 rw [bQ]at hmet
 unfold PlD.met at hmet
 obtain ⟨z1,z2⟩:=hG.sz x hxn
 have e1:newP (envG G lim blk) p (2,(x:Int))=decide ((envG G lim blk).sz x≤lim):=by simp [newP,hf];rfl
 have e2:meetP (envG G lim blk) false p (2,(x:Int))=if lim < (envG G lim blk).sz x then p.addL x else p.addS false x ((envG G lim blk).sz x):=by simp only [meetP,hf,if_true];rfl
 have hx0:=(zo V).alloc (.cells #[.int .i64 2,.int .i64 x] 71)
 have hB:=aF V #[.int .i64 2,.int .i64 x] 71 _ rfl
 obtain ⟨sv,bv,kv,lv,pv,mv,mp,nm,f,Y,fi,hq⟩:=h.grow hx0
 obtain ⟨mA,mc,rfl, -, -, -,hmc, -⟩:=hq.pr.om.form dK dM
 rw [bw]at hq
 obtain ⟨mg,rfl,_,_⟩:=cT hq.pr.om (fun e=>by have:=bw (n:=G.ns.length) (p:=p);rw [e]at this;simp at this;omega)
 obtain ⟨sA,sc,rfl, -⟩:=hq.pr.os.form aP dM
 rw [aW]at hq
 have cm:=eO hq.pr.om bw (k:=x) hxn
 rw [ea hxn,show p.has x=false by cases hc:p.has x with | false=>rfl | true=>exact absurd (AJ.1 hc) hm]at cm
 obtain ⟨mcur,hmcur⟩:=ci hq.pr.om
 have fm:=(aB hmcur).2
 obtain ⟨nb,noff,hA,hcn⟩:=hV.nodes.row.get oM
 obtain ⟨d0,d1,d2⟩:=bB hcn hxn
 have hbm:b≠mg:=fun e=>by have:=hq.cel;rw [e,hmcur]at this;injection this with this;injection this with _ this;exact absurd this dM
 have hnm:nb≠mg:=fun e=>by have h1:=oO d0;have h2:=(bM hq.pr.om rfl).1;omega
 have hcel:=hq.cel
 rw [hA]at hcel
 have HPR0:=zH hq.pr
 have D0:=zH d0
 have D1:=zH d1
 have D2:=zH d2
 have HX0:=zH (zy hx0)
 have HML:=zH (bw (n:=G.ns.length) (p:=p))
 have HLO:=zH hq.lo
 have HNX:=zH hq.nx
 have HNM:=zH hq.nmk
 have HFS:=zH hq.fst
 have HBLL:=zH (And.intro ho.bl ho.ll)
 generalize (envG G lim blk).sz x=z at*
 have HS:=zH (fun W=>ki (G.ns.getD x default) W)
 rw [z2]at HS
 have jx0:(0:Int)≤(x:Int):=by omega
 have jx1:(x:Int) < (G.ns.length:Int):=by omega
 have hpl:p.pile.length≤1000:=by have:=ht.2.1;omega
 have htp:p.top≤9000000:=by have:=ht.1;omega
 have hbl:p.begins.length≤1000:=by have:=ho.bl;omega
 have hll:p.lk.length≤1000:=by have:=ho.ll;omega
 have HBK:Hid (1≤blk):=zH hG.bk.1
 have HMS:=zH (nP (n:=G.ns.length) (p:=p) hxn)
 have HMS2:=zH (nQ (n:=G.ns.length) (p:=p) (mk:=false) (s:=z) hxn)
 have HA:=zH hA
 have HMC:=zH hmcur
 clear hm hf hq hmc hV hG ho ht hcn d0 d1 d2 hmcur hxn hA fm
 generalize G.ns.getD x default=y at*
 unfold jE
 rw [e1,e2,if_neg (Nat.not_lt.2 hz),decide_eq_true hz]
 have dz:decide (lim < z)=false:=decide_eq_false (Nat.not_lt.2 hz)
 have HWZ:Hid (wrap64 ((p.top:Int)+(z:Int))=(p.top:Int)+(z:Int)):=zH (xE htp z1)
 clear e1 e2 hx0 hz
 have k1:=(aB hcel).1
 go_enter Tryz.func232,Tryz.ntmps232
 go_wp2_with fail
 have l0:=hB.cells
 have l1:=(aO hcel).cells
 have l2:=aG cm
 have hs0:=zo (V.alloc (.cells #[.int .i64 2,.int .i64 x] 71))
 generalize hW:V.alloc (.cells #[.int .i64 2,.int .i64 x] 71)=W at*
 (refine aC (W:=W) kR kR aS ?_;(repeat (go_big_quiet_step (fail)));refine wpQuiet_nil ?_;intro w1 hx)
 have k0:=(aB (hB.at hx)).1
 have hcel1:=(hx.block (aA hcel)).trans hcel
 have k2:=(aB hcel1).1
 have k3:=hx.cell cm
 have hmc1:=(hx.block (aA HMC.out)).trans HMC.out
 have fm:=(aB hmc1).2
 have hpr1:=HPR0.out.grow hx
 have g0:=hpr1.ext.cell D0.out
 have g1:=hpr1.ext.cell D1.out
 have g2:=hpr1.ext.cell D2.out
 have HPR:=zH (hpr1.setM rfl HML.out x)
 have HCEL:=zH (bC hcel1 (.bool true) hbm (i:=x))
 have HKP:=zH ((HX0.out.trans (zy hx)).trans (KpT.set hmc1 (.inr (.inl rfl)) (i:=x) (x:= .bool true)))
 clear hx hs0 l0 l1 l2 hcel cm hcel1 hmc1 hpr1 HMC HX0 hB HPR0 k1 hW
 go_wp2_with fail
 refine (HS.out _).mono ?_
 rintro e w2 ⟨rfl,hx⟩
 replace HPR:=zH (HPR.out.grow hx)
 replace HCEL:=zH (AB HCEL.out hx)
 replace HKP:=zH (HKP.out.trans (zy hx))
 clear hx k0 k2 k3 fm g0 g1 g2 D0 D1 D2 HS
 have k1:=(aB HCEL.out).1
 go_wp2_with fail
 have hs0:=zo w2
 have l1:=(aO HCEL.out).cells
 have hb1:(1:Int)≤(blk:Int):=by have:=HBK.out;omega
 have hz0:(0:Int)≤(p.top:Int):=by omega
 have hz1:(p.top:Int)≤9223372036854775807:=by omega
 have hw:wrap64 ((p.top:Int)/(blk:Int))=((p.top/blk:Nat):Int):=by
  have h2:=Nat.div_le_self p.top blk
  rw [show (p.top:Int)/(blk:Int)=((p.top/blk:Nat):Int)from rfl]
  generalize p.top/blk=q at*
  exact IntWalk.wrap64_in _ ⟨by omega,by omega⟩
 (refine aC (W:=w2) kR kR aS ?_;(repeat (go_big_quiet_step (fail)));refine wpQuiet_nil ?_;intro w1 hx)
 replace HPR:=zH (HPR.out.grow hx)
 replace HCEL:=zH (AB HCEL.out hx)
 replace HKP:=zH (HKP.out.trans (zy hx))
 clear hx hs0 l1 k1
 try rw [hw]
 clear hw hb1 hz0 hz1
 have HKW:Hid ((Lit.int .i64 ((p.top/blk:Nat):Int)).wf=true):=zH (by
  have h2:=Nat.div_le_self p.top blk
  obtain ⟨q,hq⟩:∃q,p.top/blk=q:=⟨_,rfl⟩
  rw [hq]at h2⊢
  simp [Lit.wf,IntKind.min,IntKind.max,IntKind.signed,IntKind.bits]
  omega)
 have HYL:Hid ((Y ((p.top/blk:Nat):Int)).length≤1000):=zH (by have:=HNX.out.len (p.top/blk);omega)
 have HNM2:Hid (nm < maxLen):=zH (by have h1:=HNM.out;have h2:=HKB.out;simp only [PlD.met,maxLen]at*;omega)
 have k1:=(aB HCEL.out).1
 go_wp2_with fail
 refine ju (Behind fun a' w'=>∃(H16:Nat) (v17:Value),Hid (PR V0 (.slice sA p.small.length sc) bv kv lv pv (.slice (some ⟨mg,0,none⟩) G.ns.length mc) mp (nm+1) (fun y=>if y=((p.top/blk:Nat):Int)then v17 else f y) (fun y=>if y=((p.top/blk:Nat):Int)then Y ((p.top/blk:Nat):Int)++ [p.small.length]else Y y) ((metL G.ns.length p).set x true) p w')∧Hid (BoxK b #[.slice (some ⟨nb,noff,none⟩) G.ns.length G.ncap,.slice G.rA G.rs.length G.rcap,.int .i64 lim,.int .i64 blk,.slice (some ⟨mg,0,none⟩) G.ns.length mc,.slice sA p.small.length sc,lv,bv,.int .i64 p.top,pv,.map (some mp),.int .i64 fi,kv] 202 w')∧Hid (KpT V w')∧a'= {tmps:= #[Value.pointer (some {block:=b,off:=0}),Value.agg #[Value.int IntKind.i64 2,Value.int IntKind.i64 ↑x],undef,Value.pointer (some {block:=V.heap.size,off:=0}),Value.bool false,Value.int IntKind.i64 ↑x,Value.int IntKind.i64 ↑z,Value.int IntKind.i64 (↑p.top/↑blk),Value.pointer (some {block:=V.heap.size,off:=0}),Value.int IntKind.i64 2,Value.bool false,Value.bool false,Value.pointer (some {block:=b,off:=0}),Value.pointer (some {block:=b,off:=0}),Value.pointer (some {block:=b,off:=4}),Value.slice (some {block:=mg,off:=0}) G.ns.length mc,Value.pointer (some {block:=V.heap.size,off:=1}),Value.int IntKind.i64 ↑x,Value.pointer (some {block:=mg,off:=x}),Value.bool false,Value.bool false,Value.pointer (some {block:=V.heap.size,off:=1}),Value.int IntKind.i64 ↑x,Value.pointer (some {block:=b,off:=0}),Value.pointer (some {block:=b,off:=0}),Value.pointer (some {block:=b,off:=4}),Value.slice (some {block:=mg,off:=0}) G.ns.length mc,Value.int IntKind.i64 ↑x,Value.pointer (some {block:=mg,off:=x}),Value.pointer (some {block:=b,off:=0}),Value.pointer (some {block:=b,off:=0}),Value.pointer (some {block:=b,off:=0}),Value.pointer (some {block:=b,off:=0}),Value.slice (some {block:=nb,off:=noff}) G.ns.length G.ncap,Value.int IntKind.i64 ↑x,Value.pointer (some {block:=nb,off:=noff+x*3}),Value.agg #[Value.int IntKind.i64 y.kind,Value.slice y.fA y.fields.length y.fcap,Value.slice y.rA y.raws.length y.rcap],Value.int IntKind.i64 ↑z,Value.int IntKind.i64 ↑z,Value.pointer (some {block:=b,off:=0}),Value.pointer (some {block:=b,off:=0}),Value.pointer (some {block:=b,off:=2}),Value.int IntKind.i64 ↑lim,Value.bool false,undef,undef,undef,undef,undef,undef,undef,undef,undef,undef,undef,undef,undef,undef,undef,undef,undef,undef,undef,undef,Value.pointer (some {block:=b,off:=0}),Value.pointer (some {block:=b,off:=0}),Value.pointer (some {block:=b,off:=8}),Value.int IntKind.i64 ↑p.top,Value.pointer (some {block:=b,off:=0}),Value.pointer (some {block:=b,off:=0}),Value.pointer (some {block:=b,off:=3}),Value.int IntKind.i64 ↑blk,Value.int IntKind.i64 (↑p.top/↑blk),Value.pointer (some {block:=b,off:=0}),Value.pointer (some {block:=b,off:=0}),Value.pointer (some {block:=b,off:=10}),Value.map (some mp),Value.int IntKind.i64 (↑p.top/↑blk),Value.pointer (some {block:=b,off:=0}),Value.pointer (some {block:=b,off:=0}),Value.pointer (some {block:=b,off:=10}),Value.map (some mp),Value.int IntKind.i64 (↑p.top/↑blk),f (↑p.top/↑blk),Value.pointer (some {block:=b,off:=0}),Value.pointer (some {block:=b,off:=0}),Value.pointer (some {block:=b,off:=5}),Value.slice sA p.small.length sc,Value.int IntKind.i64 ↑p.small.length,Value.slice (some {block:=H16,off:=0}) 1 1,v17,undef,undef,undef,undef,undef,undef,undef,undef,undef,undef,undef,undef,undef,undef,undef,undef,undef,undef,undef,undef,undef,undef,undef,undef,undef,undef,undef,undef,undef,undef,undef,undef,undef,undef,undef,undef,undef,undef,undef,undef],defers:= []}) ?_ ?_
 ·skip
  have hyd:=(zo w1).drew
  have hGP:BoxK b #[.slice (some ⟨nb,noff,none⟩) G.ns.length G.ncap,.slice G.rA G.rs.length G.rcap,.int .i64 lim,.int .i64 blk,.slice (some ⟨mg,0,none⟩) G.ns.length mc,.slice sA p.small.length sc,lv,bv,.int .i64 p.top,pv,.map (some mp),.int .i64 fi,kv] 202 w1.drew:=AB HCEL.out hyd
  have gB:=hGP.cells
  (refine dI (w:=w1) (fun w'=>∃u:KeptOf (w1).drew (BoxK b #[.slice (some ⟨nb,noff,none⟩) G.ns.length G.ncap,.slice G.rA G.rs.length G.rcap,.int .i64 lim,.int .i64 blk,.slice (some ⟨mg,0,none⟩) G.ns.length mc,.slice sA p.small.length sc,lv,bv,.int .i64 p.top,pv,.map (some mp),.int .i64 fi,kv] 202),w'=u.1) (.rd [0,1,2,3,4,5,6,7,8,9,11,12,13,14,15] (.fk 10 (.one 16 (.one 17 .tl)) 16 (.one 10 (.one 17 .tl)))) [18] kR kR (by intro c a d v w h;first | exact h | (cases d <;>first | exact h | (cases h;done) | cases h.1.1 | cases h.1)) (ae hGP) ?_)
  (refine jZ ?_;(try simp only [aI,List.map_cons,List.map_nil,List.getD_cons_zero,List.getD_cons_succ]);(repeat (go_big_quiet_step (fail)));refine wpQuiet_nil ?_)
  replace HPR:=zH (HPR.out.grow hyd)
  replace HCEL:=zH hGP
  replace HKP:=zH (HKP.out.trans (zy hyd))
  clear hyd hGP gB k1
  generalize w1.drew=wN at*
  have HLT0:=zH HPR.out.lt
  have HZ:=zH (Nat.le_refl wN.heap.size)
  obtain ⟨Z,hZ⟩:∃Z,wN.heap.size=Z:=⟨_,rfl⟩
  have HLT:Hid (∀v∈ [.slice sA p.small.length sc,bv,kv,lv,pv,.slice (some ⟨mg,0,none⟩) G.ns.length mc],∀g,v.ownBlock=some g→g < Z):=zH (fun v hv g hg=>by rw [←hZ];exact HLT0.out v hv g hg)
  replace HZ:Hid (Z≤wN.heap.size):=zH oM
  clear HLT0 hZ
  repeat' (first | (refine rL ?_ ?_ ?_) | (refine s6 ?_ ?_) | (refine cE (i:=10) gD rM ?_;intro K hK;refine xD (.tmp 81) (.tmp 82) rfl HPR.out.mpv rM ((p.top/blk:Nat):Int) rM HKW.out ?_;refine hK _ _ _ (fun _ h=>h) (ae HCEL.out) ?_;clear hK K) | (refine cE (i:=16) gD rM ?_;intro K hK;go_simp;refine hK _ _ _ (fun _ h=>h) (ae (AB HCEL.out ((zo wN).alloc (.cells #[.int .i64 p.small.length] 3)))) ?_;clear hK K;have hy:=(zo wN).alloc (.cells #[.int .i64 p.small.length] 3);have L16:=zH (aN wN #[.int .i64 p.small.length] 3 _ rfl);have Z16:Hid (Z≤wN.heap.size):=HZ;replace HPR:=zH (HPR.out.grow hy);replace HCEL:=zH (AB HCEL.out hy);replace HKP:=zH (HKP.out.trans (zy hy));replace HZ:=zH (Nat.le_trans HZ.out hy.size);clear hy;generalize wN.alloc (.cells #[.int .i64 p.small.length] 3)=wM at*;generalize wN.heap.size=H16 at*;(try clear wN);rename World=>wN) | (refine cE (i:=17) gD rM ?_;intro K hK;refine qg (.tmp 83) (.tmp 89) rfl rM (HPR.out.fam ((p.top/blk:Nat):Int)) (p.small.length:Nat) ⟨H16,0,none⟩ 1 rM (xC L16.out) (by rw [aW];have:=HYL.out;omega) HPR.out.ext.size ?_;intro v17 wM ho hg ht;rw [gC]at ho;have hcel2:=uu (HPR.out.fam ((p.top/blk:Nat):Int)) HCEL.out hg;refine hK _ _ _ (fun _ h=>h) (ae hcel2) ?_;clear hK K;have HMID:=zH (PR.mid HPR.out hg);have HOW:=zH ho;have HGR:=zH hg;have HTB:=zH ht;have HKM:=zH (HKP.out.trans (KpT.ownO (HPR.out.fam ((p.top/blk:Nat):Int)) hg));have HCM:=zH hcel2;clear hcel2 ho hg ht))
  all_goals
   ((refine kW ?_;(try simp only [aI,List.map_cons,List.map_nil,List.getD_cons_zero,List.getD_cons_succ]));go_wp2_with (first | (at_mapUpdate;refine ef rfl (.tmp 76) (.tmp 77) (.tmp 90) rfl HMID.out rfl HNM2.out ((p.top/blk:Nat):Int) _ rfl rfl HKW.out ?_;intro w10 hm10 hg10;have hpr10:=HPR.out.put HGR.out HOW.out (HTB.out.imp id fun h=> .inr ⟨_,Nat.le_refl _,h⟩) hm10 hg10;have hcel10:=jY HMID.out HCM.out hg10;have hkp10:=HKM.out.trans (KpT.map HMID.out hg10);clear HPR HCEL HKP HZ HLT;have HPR:=zH hpr10;have HCEL:=zH hcel10;have HKP:=zH hkp10;clear HMID HOW HGR HTB HKM HCM hm10 hg10 hpr10 hcel10 hkp10 L16 Z16)))
   exact Behind.mk ⟨_,_,HPR,HCEL,HKP,rfl⟩
 intro a' w10 hbeh
 obtain ⟨H16,v17,hpr,hcel,hkp,rfl⟩:=hbeh.out
 clear hbeh HPR HCEL HKP HYL HNM2 HKW k1
 have HPR:=hpr
 have HCEL:=hcel
 have HKP:=hkp
 clear hpr hcel hkp
 have k1:=(aB HCEL.out).1
 go_wp2_with fail
 refine ju (Behind fun a' w'=>∃(H8 H18 H24:Nat) (A9:Option Addr) (c9:Nat) (A19:Option Addr) (c19:Nat) (A25:Option Addr) (c25:Nat) (wN:World),Hid (PR V0 (.slice A9 (p.small.length+1) c9) (.slice A19 (p.begins.length+1) c19) (.slice A25 (p.lk.length+1) c25) lv pv (.slice (some ⟨mg,0,none⟩) G.ns.length mc) mp (nm+1) (fun y=>if y=((p.top/blk:Nat):Int)then v17 else f y) (fun y=>if y=((p.top/blk:Nat):Int)then Y ((p.top/blk:Nat):Int)++ [p.small.length]else Y y) ((metL G.ns.length p).set x true) ⟨p.small++ [x],p.begins++ [p.top],p.lk++ [false],p.large,p.pile,p.top⟩ wN)∧Hid (BoxK b #[.slice (some ⟨nb,noff,none⟩) G.ns.length G.ncap,.slice G.rA G.rs.length G.rcap,.int .i64 lim,.int .i64 blk,.slice (some ⟨mg,0,none⟩) G.ns.length mc,.slice sA p.small.length sc,lv,bv,.int .i64 p.top,pv,.map (some mp),.int .i64 fi,kv] 202 wN)∧Hid (KpT V wN)∧a'= {tmps:= #[Value.pointer (some {block:=b,off:=0}),Value.agg #[Value.int IntKind.i64 2,Value.int IntKind.i64 ↑x],undef,Value.pointer (some {block:=V.heap.size,off:=0}),Value.bool false,Value.int IntKind.i64 ↑x,Value.int IntKind.i64 ↑z,Value.int IntKind.i64 (↑p.top/↑blk),Value.pointer (some {block:=V.heap.size,off:=0}),Value.int IntKind.i64 2,Value.bool false,Value.bool false,Value.pointer (some {block:=b,off:=0}),Value.pointer (some {block:=b,off:=0}),Value.pointer (some {block:=b,off:=4}),Value.slice (some {block:=mg,off:=0}) G.ns.length mc,Value.pointer (some {block:=V.heap.size,off:=1}),Value.int IntKind.i64 ↑x,Value.pointer (some {block:=mg,off:=x}),Value.bool false,Value.bool false,Value.pointer (some {block:=V.heap.size,off:=1}),Value.int IntKind.i64 ↑x,Value.pointer (some {block:=b,off:=0}),Value.pointer (some {block:=b,off:=0}),Value.pointer (some {block:=b,off:=4}),Value.slice (some {block:=mg,off:=0}) G.ns.length mc,Value.int IntKind.i64 ↑x,Value.pointer (some {block:=mg,off:=x}),Value.pointer (some {block:=b,off:=0}),Value.pointer (some {block:=b,off:=0}),Value.pointer (some {block:=b,off:=0}),Value.pointer (some {block:=b,off:=0}),Value.slice (some {block:=nb,off:=noff}) G.ns.length G.ncap,Value.int IntKind.i64 ↑x,Value.pointer (some {block:=nb,off:=noff+x*3}),Value.agg #[Value.int IntKind.i64 y.kind,Value.slice y.fA y.fields.length y.fcap,Value.slice y.rA y.raws.length y.rcap],Value.int IntKind.i64 ↑z,Value.int IntKind.i64 ↑z,Value.pointer (some {block:=b,off:=0}),Value.pointer (some {block:=b,off:=0}),Value.pointer (some {block:=b,off:=2}),Value.int IntKind.i64 ↑lim,Value.bool false,undef,undef,undef,undef,undef,undef,undef,undef,undef,undef,undef,undef,undef,undef,undef,undef,undef,undef,undef,undef,Value.pointer (some {block:=b,off:=0}),Value.pointer (some {block:=b,off:=0}),Value.pointer (some {block:=b,off:=8}),Value.int IntKind.i64 ↑p.top,Value.pointer (some {block:=b,off:=0}),Value.pointer (some {block:=b,off:=0}),Value.pointer (some {block:=b,off:=3}),Value.int IntKind.i64 ↑blk,Value.int IntKind.i64 (↑p.top/↑blk),Value.pointer (some {block:=b,off:=0}),Value.pointer (some {block:=b,off:=0}),Value.pointer (some {block:=b,off:=10}),Value.map (some mp),Value.int IntKind.i64 (↑p.top/↑blk),Value.pointer (some {block:=b,off:=0}),Value.pointer (some {block:=b,off:=0}),Value.pointer (some {block:=b,off:=10}),Value.map (some mp),Value.int IntKind.i64 (↑p.top/↑blk),f (↑p.top/↑blk),Value.pointer (some {block:=b,off:=0}),Value.pointer (some {block:=b,off:=0}),Value.pointer (some {block:=b,off:=5}),Value.slice sA p.small.length sc,Value.int IntKind.i64 ↑p.small.length,Value.slice (some {block:=H16,off:=0}) 1 1,v17,Value.pointer (some {block:=b,off:=0}),Value.pointer (some {block:=b,off:=0}),Value.pointer (some {block:=b,off:=0}),Value.pointer (some {block:=b,off:=0}),Value.pointer (some {block:=b,off:=0}),Value.pointer (some {block:=b,off:=5}),Value.slice sA p.small.length sc,Value.int IntKind.i64 ↑x,Value.slice (some {block:=H8,off:=0}) 1 1,Value.slice A9 (p.small.length+1) c9,Value.pointer (some {block:=b,off:=0}),Value.pointer (some {block:=b,off:=0}),Value.pointer (some {block:=b,off:=7}),bv,Value.pointer (some {block:=b,off:=0}),Value.pointer (some {block:=b,off:=0}),Value.pointer (some {block:=b,off:=8}),Value.int IntKind.i64 ↑p.top,Value.slice (some {block:=H18,off:=0}) 1 1,Value.slice A19 (p.begins.length+1) c19,Value.pointer (some {block:=b,off:=0}),Value.pointer (some {block:=b,off:=0}),Value.pointer (some {block:=b,off:=12}),kv,Value.slice (some {block:=H24,off:=0}) 1 1,Value.slice A25 (p.lk.length+1) c25,Value.pointer (some {block:=b,off:=0}),Value.pointer (some {block:=b,off:=5}),Value.pointer (some {block:=b,off:=0}),Value.pointer (some {block:=b,off:=7}),Value.pointer (some {block:=b,off:=0}),Value.pointer (some {block:=b,off:=12}),undef,undef,undef,undef,undef,undef,undef,undef],defers:= []}∧w'=((wN.setCell ⟨b,5,none⟩ (.slice A9 (p.small.length+1) c9)).setCell ⟨b,7,none⟩ (.slice A19 (p.begins.length+1) c19)).setCell ⟨b,12,none⟩ (.slice A25 (p.lk.length+1) c25)) ?_ ?_
 ·skip
  have hyd:=(zo w10).drew
  have hGP:BoxK b #[.slice (some ⟨nb,noff,none⟩) G.ns.length G.ncap,.slice G.rA G.rs.length G.rcap,.int .i64 lim,.int .i64 blk,.slice (some ⟨mg,0,none⟩) G.ns.length mc,.slice sA p.small.length sc,lv,bv,.int .i64 p.top,pv,.map (some mp),.int .i64 fi,kv] 202 w10.drew:=AB HCEL.out hyd
  have gB:=hGP.cells
  (refine dI (w:=w10) (fun _=>True) (.rd [1,2] (.wk [26,27,28,29,30,31,32,33,34] (.rd [0,3,4,5,6,7,10,11,12,13,14,15,16,17,20,21,22,23] (.fk3 8 (.fk3 9 (.fk 18 (.fk 19 (.one 24 (.one 25 .tl)) 24 (.one 19 (.one 25 .tl))) 24 (.one 18 (.one 19 (.one 25 .tl)))) 18 (.fk 9 (.fk 19 (.one 24 (.one 25 .tl)) 24 (.one 19 (.one 25 .tl))) 24 (.one 9 (.one 19 (.one 25 .tl)))) 24 (.fk 9 (.one 18 (.one 19 (.one 25 .tl))) 18 (.one 9 (.one 19 (.one 25 .tl))))) 18 (.fk 8 (.fk 9 (.fk 19 (.one 24 (.one 25 .tl)) 24 (.one 19 (.one 25 .tl))) 24 (.one 9 (.one 19 (.one 25 .tl)))) 24 (.one 8 (.one 9 (.one 19 (.one 25 .tl))))) 24 (.fk 8 (.fk 9 (.one 18 (.one 19 (.one 25 .tl))) 18 (.one 9 (.one 19 (.one 25 .tl)))) 18 (.one 8 (.one 9 (.one 19 (.one 25 .tl))))))))) [] kR kR (by intro c a d v w h;first | exact h | (cases d <;>first | exact h | (cases h;done) | cases h.1.1 | cases h.1)) trivial ?_;(refine jZ ?_;(try simp only [aI,List.map_cons,List.map_nil,List.getD_cons_zero,List.getD_cons_succ]);(repeat (go_big_quiet_step (fail)));refine wpQuiet_nil ?_);refine ya (fun _=>trivial) (fun w'=>∃u:KeptOf (w10).drew (BoxK b #[.slice (some ⟨nb,noff,none⟩) G.ns.length G.ncap,.slice G.rA G.rs.length G.rcap,.int .i64 lim,.int .i64 blk,.slice (some ⟨mg,0,none⟩) G.ns.length mc,.slice sA p.small.length sc,lv,bv,.int .i64 p.top,pv,.map (some mp),.int .i64 fi,kv] 202),w'=u.1) (ae hGP) ?_)
  (refine jZ ?_;(try simp only [aI,List.map_cons,List.map_nil,List.getD_cons_zero,List.getD_cons_succ]);(repeat (go_big_quiet_step (fail)));refine wpQuiet_nil ?_)
  replace HPR:=zH (HPR.out.grow hyd)
  replace HCEL:=zH hGP
  replace HKP:=zH (HKP.out.trans (zy hyd))
  clear hyd hGP gB k1
  generalize w10.drew=wN at*
  have HLT0:=zH HPR.out.lt
  have HZ:=zH (Nat.le_refl wN.heap.size)
  obtain ⟨Z,hZ⟩:∃Z,wN.heap.size=Z:=⟨_,rfl⟩
  have HLT:Hid (∀v∈ [.slice sA p.small.length sc,bv,kv,lv,pv,.slice (some ⟨mg,0,none⟩) G.ns.length mc],∀g,v.ownBlock=some g→g < Z):=zH (fun v hv g hg=>by rw [←hZ];exact HLT0.out v hv g hg)
  replace HZ:Hid (Z≤wN.heap.size):=zH oM
  clear HLT0 hZ
  repeat' (first | (refine rL ?_ ?_ ?_) | (refine s6 ?_ ?_) | (refine cE (i:=8) gD rM ?_;intro K hK;go_simp;refine hK _ _ _ (fun _ h=>h) (ae (AB HCEL.out ((zo wN).alloc (.cells #[.int .i64 x] 3)))) ?_;clear hK K;have hy:=(zo wN).alloc (.cells #[.int .i64 x] 3);(try replace L18:=zH (AB L18.out hy));(try replace L24:=zH (AB L24.out hy));have L8:=zH (aN wN #[.int .i64 x] 3 _ rfl);have Z8:Hid (Z≤wN.heap.size):=HZ;replace HPR:=zH (HPR.out.grow hy);replace HCEL:=zH (AB HCEL.out hy);replace HKP:=zH (HKP.out.trans (zy hy));replace HZ:=zH (Nat.le_trans HZ.out hy.size);clear hy;generalize wN.alloc (.cells #[.int .i64 x] 3)=wM at*;generalize wN.heap.size=H8 at*;(try clear wN);rename World=>wN) | (refine cE (i:=9) gD rM ?_;intro K hK;refine fZ (.tmp 97) (.tmp 99) 38 rfl cd aP rM HPR.out.os ⟨H8,0,none⟩ 1 [(x:Int)] (p.small.length+1) 1 (by simp [ordZ]) rfl rM (ep L8.out rfl aP dM) oM (by simp [maxLen];omega) HPR.out.ext.size ?_;intro A9 c9 wM ho hg ht;rw [gC]at ho;have hcel2:=eT HPR.out.os HCEL.out hg dM;refine hK _ _ _ (fun _ h=>h) (ae hcel2) ?_;clear hK K;(try replace L18:=zH (jF L18.out hg (fun g e=>HLT.out (.slice sA p.small.length sc) sM g e) Z18.out));(try replace L24:=zH (jF L24.out hg (fun g e=>HLT.out (.slice sA p.small.length sc) sM g e) Z24.out));replace HKP:=zH (HKP.out.trans (KpT.own HPR.out.os (.inl rfl) hg));replace HCEL:=zH hcel2;replace HZ:=zH (Nat.le_trans HZ.out hg.size);replace HPR:=zH (HPR.out.turn_s ho hg (ht.imp id fun h=> .inr ⟨_,Nat.le_refl _,h⟩));clear hcel2 ho hg ht;(try clear wN);rename World=>wN) | (refine cE (i:=18) gD rM ?_;intro K hK;go_simp;refine hK _ _ _ (fun _ h=>h) (ae (AB HCEL.out ((zo wN).alloc (.cells #[.int .i64 p.top] 3)))) ?_;clear hK K;have hy:=(zo wN).alloc (.cells #[.int .i64 p.top] 3);(try replace L8:=zH (AB L8.out hy));(try replace L24:=zH (AB L24.out hy));have L18:=zH (aN wN #[.int .i64 p.top] 3 _ rfl);have Z18:Hid (Z≤wN.heap.size):=HZ;replace HPR:=zH (HPR.out.grow hy);replace HCEL:=zH (AB HCEL.out hy);replace HKP:=zH (HKP.out.trans (zy hy));replace HZ:=zH (Nat.le_trans HZ.out hy.size);clear hy;generalize wN.alloc (.cells #[.int .i64 p.top] 3)=wM at*;generalize wN.heap.size=H18 at*;(try clear wN);rename World=>wN) | (refine cE (i:=19) gD rM ?_;intro K hK;refine fZ (.tmp 104) (.tmp 109) 38 rfl cd aP rM HPR.out.ob ⟨H18,0,none⟩ 1 [(p.top:Int)] (p.begins.length+1) 1 (by simp [ordZ]) rfl rM (ep L18.out rfl aP dM) oM (by simp [maxLen];omega) HPR.out.ext.size ?_;intro A19 c19 wM ho hg ht;rw [gC]at ho;have hcel2:=eT HPR.out.ob HCEL.out hg dM;refine hK _ _ _ (fun _ h=>h) (ae hcel2) ?_;clear hK K;(try replace L24:=zH (jF L24.out hg (fun g e=>HLT.out bv sM g e) Z24.out));replace HKP:=zH (HKP.out.trans (KpT.own HPR.out.ob (.inl rfl) hg));replace HCEL:=zH hcel2;replace HZ:=zH (Nat.le_trans HZ.out hg.size);replace HPR:=zH (HPR.out.turn_b ho hg (ht.imp id fun h=> .inr ⟨_,Nat.le_refl _,h⟩));clear hcel2 ho hg ht;(try clear wN);rename World=>wN) | (refine cE (i:=24) gD rM ?_;intro K hK;go_simp;refine hK _ _ _ (fun _ h=>h) (ae (AB HCEL.out ((zo wN).alloc (.cells #[.bool false] 4)))) ?_;clear hK K;have hy:=(zo wN).alloc (.cells #[.bool false] 4);(try replace L8:=zH (AB L8.out hy));(try replace L18:=zH (AB L18.out hy));have L24:=zH (aN wN #[.bool false] 4 _ rfl);have Z24:Hid (Z≤wN.heap.size):=HZ;replace HPR:=zH (HPR.out.grow hy);replace HCEL:=zH (AB HCEL.out hy);replace HKP:=zH (HKP.out.trans (zy hy));replace HZ:=zH (Nat.le_trans HZ.out hy.size);clear hy;generalize wN.alloc (.cells #[.bool false] 4)=wM at*;generalize wN.heap.size=H24 at*;(try clear wN);rename World=>wN) | (refine cE (i:=25) gD rM ?_;intro K hK;refine fZ (.tmp 114) (.tmp 115) 199 rfl vS dK rM HPR.out.ok ⟨H24,0,none⟩ 1 [false] (p.lk.length+1) 1 (by simp [ordZ]) rfl rM (ep L24.out rfl dK dM) oM (by simp [maxLen];omega) HPR.out.ext.size ?_;intro A25 c25 wM ho hg ht;have hcel2:=eT HPR.out.ok HCEL.out hg dM;refine hK _ _ _ (fun _ h=>h) (ae hcel2) ?_;clear hK K;replace HKP:=zH (HKP.out.trans (KpT.own HPR.out.ok (.inr rfl) hg));replace HCEL:=zH hcel2;replace HZ:=zH (Nat.le_trans HZ.out hg.size);replace HPR:=zH (HPR.out.turn_k ho hg (ht.imp id fun h=> .inr ⟨_,Nat.le_refl _,h⟩));clear hcel2 ho hg ht;(try clear wN);rename World=>wN))
  all_goals
   ((refine kW ?_;(try simp only [aI,List.map_cons,List.map_nil,List.getD_cons_zero,List.getD_cons_succ]));have hcel:=HCEL.out;have k1:=(aB hcel).1;have f1:=(aB hcel).2;clear hcel;go_wp2_with fail;exact Behind.mk ⟨_,_,_,_,_,_,_,_,_,wN,HPR,HCEL,HKP,rfl,rfl⟩)
 intro a' w11 hbeh
 obtain ⟨H8,H18,H24,A9,c9,A19,c19,A25,c25,wN,hpr,hcel,hkp,rfl,rfl⟩:=hbeh.out
 clear hbeh HPR HCEL HKP k1
 have HPR:=hpr
 have HCEL:=hcel
 have HKP:=hkp
 have hcel:=HCEL.out
 have k1:=(aB hcel).1
 have f1:=(aB hcel).2
 clear hpr hcel hkp
 go_wp2_with fail
 rw [HWZ.out]
 go_ret
 have hfin:=PP.addS (K:=K) (x:=x) (z:=z) (by rw [HA.out];exact HCEL.out) (by rw [HMS2.out];exact HPR.out.top (p.top+z)) HLO.out (HNX.out.addS HBLL.out.1 HBLL.out.2) HNM.out (HFS.out.addS HBLL.out.2)
 exact ⟨rfl,hfin.1,HKP.out.trans hfin.2⟩
theorem nW (h:PP V0 G lim blk b K p V) (hK:K≤100000) (hV:GraphAt V0 G) (v:Int×Int) (hv:v.1=2→0≤v.2∧v.2 < G.ns.length) (ho:PlOk (envG G lim blk) p) (ht:TopOk p) (hG:RchG G lim blk):
  Calls Tryz.prog 232 #[.pointer (some ⟨b,0,none⟩),.agg #[.int .i64 v.1,.int .i64 v.2]] V (jE V0 G lim blk b K p v V):=by
 by_cases h2:v.1=2
 rotate_left
 ·exact us h v h2
 obtain ⟨h0,h1⟩:=hv h2
 obtain ⟨k,y⟩:=v
 obtain ⟨x,rfl⟩:=Int.eq_ofNat_of_zero_le h0
 simp only at h2 h1
 subst h2
 by_cases hm:x∈p.small++p.large
 ·exact ut h x oM hm
 ·by_cases hz:lim < (envG G lim blk).sz x
  ·exact qy h hV x ho ht hG oM hm hz
  ·exact qz h hK hV x ho ht hG oM hm oM
end
section
variable {V0 : World} {G : GraphD} {lim blk b K : Nat} {V : World}
theorem mL (p:PlD) (l:List (Int×Int)) (A:Option Addr) (cap:Nat) (h:PP V0 G lim blk b K p V) (hK:K≤100000) (hV:GraphAt V0 G) (hl:SpansAt V0 A l) (hll:l.length≤8796093022208) (hv:av G.ns.length l) (ho:PlOk (envG G lim blk) p) (ht:TopOk p) (hG:RchG G lim blk):
  Calls Tryz.prog 219 #[.pointer (some ⟨b,0,none⟩),.slice A l.length cap] V fun e w'=>e= .returned (.tuple #[])∧PP V0 G lim blk b K (allP (envG G lim blk) false p l) w'∧KpT V w':=by
 have H:=zH h
 have HKB:=zH hK
 have HVG:=zH hV
 have HL:=zH hl
 have HV:=zH hv
 have HO:=zH ho
 have HT:=zH ht
 have HG:=zH hG
 clear h hV hl hv ho ht hG hK
 go_enter Tryz.func219,Tryz.ntmps219
 go_wp2_with fail
 go_loopw [8] (fun i wr=>∃k:Nat,k≤l.length∧i= .int .i64 k∧Hid (PP V0 G lim blk b K (allP (envG G lim blk) false p (l.take k)) wr)∧Hid (KpT V wr)) (fun i _=>l.length - (intOf i).toNat)
 case atStart=>exact ⟨0,by omega,rfl,H,zH (zy (zo _))⟩
 case round=>
  obtain ⟨k,hk,rfl,HR,HKP⟩:=hrel
  by_cases hlt:k < l.length
  rotate_left
  ·rw [List.take_of_length_le oM]at HR
   go_wp2_with fail
   go_returns
   exact ⟨rfl,HR.out,HKP.out⟩
  have hvk:av G.ns.length (l.take k):=fun v hv=>HV.out v (List.mem_of_mem_take hv)
  have HO2:=zH (PlOk.all (mk:=false) (E:=envG G lim blk) HO.out (by rw [bQ];exact hvk))
  have HT2:=zH (TopOk.all (mk:=false) HG.out HT.out hvk)
  have HE:Hid (allP (envG G lim blk) false p (l.take (k+1))=meetP (envG G lim blk) false (allP (envG G lim blk) false p (l.take k)) (l.getD k (0,0))):=zH (nL hlt)
  have HVK:=zH (HV.out _ (aH (d:=(0,0)) hlt))
  obtain ⟨lb,off,rfl,hc⟩:=HL.out.get oM
  obtain ⟨e1,e2⟩:=aQ hc hlt
  have hxr:=HR.out.ext
  have c1:=hxr.cell e1
  have c2:=hxr.cell e2
  have ib0:(0:Int)≤(k:Int):=by omega
  have ib1:(k:Int) < (l.length:Int):=by omega
  clear hc e1 e2 hxr hvk
  generalize l.getD k (0,0)=v at*
  generalize allP (envG G lim blk) false p (l.take k)=q at*
  go_wp2_with fail
  have hy:=(zo wr).alloc (.cells #[.int .i64 v.1,.int .i64 v.2] 71)
  replace HR:=zH (HR.out.grow hy)
  replace HKP:=zH (HKP.out.trans (zy hy))
  clear hy c1 c2
  refine (nW HR.out HKB.out HVG.out v HVK.out HO2.out HT2.out HG.out).mono ?_
  rintro e w1 ⟨rfl,hr,hk1⟩
  rw [←HE.out]at hr
  have HR2:=zH hr
  replace HKP:=zH (HKP.out.trans hk1)
  clear hr HE HR HO2 HT2 hk1
  go_wp2_with fail
  go_roundw
  case rel=>exact ⟨k+1,by omega,by go_num,HR2,HKP⟩
  case measure=>simp [intOf];omega
theorem sT {m:Nat} (h:m≤1000000):wrap64 (m:Int)=(m:Int):=IntWalk.wrap64_in _ ⟨by omega,by omega⟩
theorem nX {m:Nat} (h:m≤1000000):wrap64 ((m:Int)+1)=(m:Int)+1:=IntWalk.wrap64_in _ ⟨by omega,by omega⟩
theorem mM (p:PlD) (h:PP V0 G lim blk b K p V) (hpl:p.pile.length≤1000):
  Calls Tryz.prog 220 #[.pointer (some ⟨b,0,none⟩)] V fun e w'=>(match p.pile.getLast? with
   | none=>e= .returned (.tuple #[.int .i64 0,.bool false])∧PP V0 G lim blk b K p w'
   | some k=>e= .returned (.tuple #[.int .i64 k,.bool true])∧PP V0 G lim blk b K p.popped w')∧KpT V w':=by
 have HP:=zH h
 obtain ⟨sv,bv,kv,lv,pv,mv,mp,nm,f,Y,fi,hq⟩:=h
 obtain ⟨pA,pc,rfl, -, -, -,hpc, -⟩:=hq.pr.op.form aP dM
 rw [aW]at hq hpc
 have k1:=(aB hq.cel).1
 have f1:=(aB hq.cel).2
 cases hgl:p.pile.getLast? with
 | none=>
  simp only
  have h0:p.pile.length=0:=by rw [List.getLast?_eq_none_iff.1 hgl];rfl
  rw [h0]at k1
  clear hq h0 hgl hpc f1
  go_enter Tryz.func220,Tryz.ntmps220
  go_wp2_with fail
  go_ret2
  exact ⟨⟨rfl,HP.out⟩,zy (zo _)⟩
 | some x=>
  simp only
  have hpe:=eY hgl
  have hpn:p.pile.length=p.pile.dropLast.length+1:=by rw [hpe];simp
  obtain ⟨m,hm⟩:∃m,p.pile.dropLast.length=m:=⟨_,rfl⟩
  rw [hm]at hpn
  obtain ⟨pg,rfl,_,_⟩:=cT hq.pr.op (by intro e;have e2:p.pile.length=0:=(by rw [←aW,e];rfl);omega)
  have cp:=et hq.pr.op aW (k:=m) oM
  rw [eE (o:=p.pile) (i:=m) oM,show p.pile.getD m 0=x by rw [hpe,←hm];simp]at cp
  have hot:=pW hq.pr.op aP aW m oM
  rw [show (ordZ p.pile).take m=ordZ p.pile.dropLast by rw [←hm,List.dropLast_eq_take];simp [ordZ,List.map_take]]at hot
  have hpr2:=hq.pr.turn_p (w':=V) hot (World.grownBy.refl _ _) (.inl rfl)
  have HQ3:Hid (PP V0 G lim blk b K p.popped (V.setCell ⟨b,9,none⟩ (.slice (some ⟨pg,0,none⟩) m pc))):=zH ⟨_,_,_,_,_,_,_,nm,f,Y,fi,aL hq.cel _,hpr2.far hq.cel dM dM hq.lo,hq.lo,hq.nx,hq.nmk,hq.fst⟩
  have HKP:=zH (KpT.set hq.cel (.inr (.inr rfl)) (i:=9) (x:= .slice (some ⟨pg,0,none⟩) m pc))
  rw [hpn]at k1 hpc
  have jw:wrap64 (m:Int)=(m:Int):=sT oM
  have jb0:(0:Int)≤(m:Int):=by omega
  have jb1:(m:Int) < ((m+1:Nat):Int):=by omega
  have jb2:(m:Int)≤(pc:Int):=by omega
  have dd:decide ((m:Int) < 0)=false:=by simp
  clear hpe hgl hot hpr2 hq hm hpn
  go_enter Tryz.func220,Tryz.ntmps220
  go_wp2_with fail
  go_ret2
  exact ⟨⟨rfl,HQ3.out⟩,HKP.out⟩
def jG (V0:World) (G:GraphD) (lim blk b K:Nat) (p:PlD) (o:Nat) (V:World) (e:Ending) (w':World):Prop:=
 ∃(i:Int) (ok:Bool),e= .returned (.tuple #[.int .i64 i,.bool ok])∧(match cl (envG G lim blk) o p with
  | some j=>i=(j:Nat)∧ok=true
  | none=>ok=false)∧PP V0 G lim blk b K p w'∧KpT V w'
def LowI (V0:World) (G:GraphD) (lim blk b K:Nat) (p:PlD) (m:Nat) (w:World):Prop:=∃sv bv kv lv pv mv mp nm f Y fi,PQ V0 G lim blk b sv bv kv lv pv mv mp nm f Y K fi p w∧fi+m=p.small.length
theorem rC (p:PlD) (h:PP V0 G lim blk b K p V) (ho:PlOk (envG G lim blk) p) (hG:RchG G lim blk):
  Calls Tryz.prog 193 #[.pointer (some ⟨b,0,none⟩)] V fun e w'=>jG V0 G lim blk b K p 0 V e w':=by
 have hmet:=ho.met_le
 have hn:=hG.n
 rw [bQ]at hmet
 unfold PlD.met at hmet
 have hsl:p.small.length≤1000:=by omega
 have HLL:=zH ho.ll
 have HNX:Hid (cl (envG G lim blk) 0 p=cI p fun _=>true):=zH (by unfold cl;rw [if_neg dM])
 have HI:Hid (∃m,LowI V0 G lim blk b K p m V):=by
  obtain ⟨sv,bv,kv,lv,pv,mv,mp,nm,f,Y,fi,hq⟩:=h
  exact zH ⟨p.small.length - fi,sv,bv,kv,lv,pv,mv,mp,nm,f,Y,fi,hq,by have:=hq.fst.1;omega⟩
 clear h ho hG hmet hn
 go_enter Tryz.func193,Tryz.ntmps193
 go_wp2_with fail
 go_loopw [] (fun wr=>(∃m,Hid (LowI V0 G lim blk b K p m wr))∧Hid (KpT V wr)) (fun wr=>leastN (fun m=>LowI V0 G lim blk b K p m wr))
 case atStart=>obtain ⟨m,hm⟩:=HI.out;exact ⟨⟨m,zH hm⟩,zH (zy (zo _))⟩
 case round=>
  obtain ⟨⟨m0,hm0⟩,HKP⟩:=hrel
  obtain ⟨hI,hmin⟩:=cY (P:=fun m=>LowI V0 G lim blk b K p m wr) ⟨m0,hm0.out⟩
  have HLS:Hid (∀(w':World) (g:Nat),LowI V0 G lim blk b K p g w'→g < leastN (fun m=>LowI V0 G lim blk b K p m wr)→leastN (fun m=>LowI V0 G lim blk b K p m w') < leastN (fun m=>LowI V0 G lim blk b K p m wr)):=zH (fun w' g hg hlt=>Nat.lt_of_le_of_lt ((cY (P:=fun m=>LowI V0 G lim blk b K p m w') ⟨g,hg⟩).2 g hg) hlt)
  generalize leastN (fun m=>LowI V0 G lim blk b K p m wr)=m at*
  obtain ⟨sv,bv,kv,lv,pv,mv,mp,nm,f,Y,fi,hq,hfm⟩:=hI
  obtain ⟨sA,sc,rfl, -⟩:=hq.pr.os.form aP dM
  obtain ⟨kA,kc,rfl, -⟩:=hq.pr.ok.form dK dM
  rw [aW]at hq
  have HQ:=zH hq
  have l1:=(aO hq.cel).cells
  have k1:=(aB hq.cel).1
  have f1:=(aB hq.cel).2
  have hs0:Ext wr wr:=zo _
  clear hm0 hmin HI
  by_cases hlt:fi < p.small.length
  rotate_left
  ·have HF:Hid (cI p (fun _=>true)=none):=zH (jk fun i hi=>by unfold ix;rw [hq.fst.2 i oM];rfl)
   have dk:decide (fi < p.small.length)=false:=by simpa using hlt
   clear hlt hq hfm k1 f1
   go_wp2_with fail
   (refine aC (W:=wr) kR kR aS ?_;(repeat (go_big_quiet_step (fail)));refine wpQuiet_nil ?_;intro w1 hx)
   have HX1:=zH hx
   clear hx hs0 l1
   have hqx:=HQ.out.grow HX1.out
   have l1:=(aO hqx.cel).cells
   have hs0:Ext w1 w1:=zo _
   clear hqx
   go_wp2_with fail
   (refine aC (W:=w1) kR kR aS ?_;(repeat (go_big_quiet_step (fail)));refine wpQuiet_nil ?_;intro w1 hx)
   go_wp2_with fail
   go_ret2
   refine ⟨_,false,rfl,?_,PP.mono ⟨_,_,_,_,_,_,_,_,_,_,_,(HQ.out.grow HX1.out).grow hx⟩ oM,HKP.out.trans (zy (HX1.out.trans hx))⟩
   rw [HNX.out,HF.out]
  have HLT:=zH hlt
  have dk:decide (fi < p.small.length)=true:=by simpa using hlt
  obtain ⟨kg,rfl,_,_⟩:=cT hq.pr.ok (fun e=>by have:=HLL.out;rw [e]at this;simp at this;omega)
  have ck:=eO hq.pr.ok rfl (k:=fi) (by have:=HLL.out;omega)
  have l2:=aG ck
  have jb0:(fi:Int) < (p.lk.length:Int):=by have:=HLL.out;omega
  have jb1:(0:Int)≤(fi:Int):=by omega
  have hgt:p.lk.getD fi true=p.lk.getD fi false:=by rw [aU (l:=p.lk) (i:=fi) (d:=true) (by have:=HLL.out;omega),aU (l:=p.lk) (i:=fi) (d:=false) (by have:=HLL.out;omega)]
  have HGT:=zH hgt
  have HB0:=zH hq.fst
  have HFM:=zH hfm
  clear hgt hlt hfm ck
  cases hb:p.lk.getD fi false with
  | false=>
   have HF:Hid (cI p (fun _=>true)=some fi):=zH (sL HLT.out (by unfold ix;rw [HGT.out,hb];rfl) fun i hi=>by unfold ix;rw [HB0.out.2 i hi];rfl)
   rw [hb]at l2
   clear hq k1 f1 hb
   go_wp2_with fail
   (refine aC (W:=wr) kR kR aS ?_;(repeat (go_big_quiet_step (fail)));refine wpQuiet_nil ?_;intro w1 hx)
   have HX1:=zH hx
   clear hx hs0 l1 l2
   have hqx:=HQ.out.grow HX1.out
   have l1:=(aO hqx.cel).cells
   have hs0:Ext w1 w1:=zo _
   clear hqx
   go_wp2_with fail
   (refine aC (W:=w1) kR kR aS ?_;(repeat (go_big_quiet_step (fail)));refine wpQuiet_nil ?_;intro w1 hx)
   go_wp2_with fail
   go_ret2
   refine ⟨_,true,rfl,?_,PP.mono ⟨_,_,_,_,_,_,_,_,_,_,_,(HQ.out.grow HX1.out).grow hx⟩ oM,HKP.out.trans (zy (HX1.out.trans hx))⟩
   rw [HNX.out,HF.out]
   exact ⟨rfl,rfl⟩
  | true=>
   have HF2:Hid (Fst p (fi+1)):=zH ⟨HLT.out,fun i hi=>by
    rcases Nat.lt_or_ge i fi with h | h
    ·exact HB0.out.2 i h
    ·obtain rfl:i=fi:=by omega
     rw [HGT.out,hb]⟩
   rw [hb]at l2
   clear hq k1 f1 hb
   go_wp2_with fail
   (refine aC (W:=wr) kR kR aS ?_;(repeat (go_big_quiet_step (fail)));refine wpQuiet_nil ?_;intro w1 hx)
   have HX1:=zH hx
   clear hx hs0 l1 l2
   have hqx:=HQ.out.grow HX1.out
   have k1:=(aB hqx.cel).1
   have f1:=(aB hqx.cel).2
   have hws:wrap64 ((fi:Int)+1)=(fi:Int)+1:=nX (by have:=HLT.out;omega)
   have HLI:Hid (LowI V0 G lim blk b K p (m - 1) (w1.setCell ⟨b,11,none⟩ (.int .i64 (wrap64 ((fi:Int)+1))))):=by
    rw [hws]
    exact zH ⟨_,_,_,_,_,_,_,nm,f,Y,fi+1,⟨aL hqx.cel _,hqx.pr.far hqx.cel dM dM hqx.lo,hqx.lo,hqx.nx,hqx.nmk,HF2.out⟩,by have:=HFM.out;have:=HLT.out;omega⟩
   have HKL:=zH ((HKP.out.trans (zy HX1.out)).trans (KpT.set hqx.cel (.inr (.inr rfl)) (i:=11) (x:= .int .i64 (wrap64 ((fi:Int)+1)))))
   have HLN:=zH (HLS.out _ _ HLI.out (by have:=HFM.out;have:=HLT.out;omega))
   clear hqx hws
   go_wp2_with fail
   go_roundw
   case rel=>exact ⟨⟨m - 1,HLI⟩,HKL⟩
   case measure=>exact HLN.out
end
def lenV:Value→Nat
 | .slice _ n _=>n
 | _=>0
theorem m6 {p:PlD} {blk c:Nat}:cI p (fun x=>decide (x/blk=c))=(d9 blk p c).find? fun i=> !p.lk.getD i true:=by
 unfold cI d9
 rw [List.find?_filter]
 congr 1
 funext i
 cases p.lk.getD i true <;>simp
theorem nY {α:Type} {q:α→Bool}:∀ {l m:List α},(∀i∈l,q i=false)→(l++m).find? q=m.find? q
 | [],m,_=>rfl
 | x::l,m,h=>by
  rw [List.cons_append,List.find?_cons,h x (List.mem_cons_self ..)]
  exact nY fun i hi=>h i (List.mem_cons_of_mem _ hi)
theorem nZ {p:PlD} {blk c:Nat} {Y:Int→List Nat} (h:NxtOk blk p Y) {ds ys:List Nat} (hY:Y c=ds++ys) (hd:∀i∈ds,p.lk.getD i true=true):cI p (fun x=>decide (x/blk=c))=ys.find? fun i=> !p.lk.getD i true:=by
 obtain ⟨d0,h1,h2⟩:=h c
 rw [m6,h1,hY,←List.append_assoc]
 refine nY fun i hi=> ?_
 rcases List.mem_append.1 hi with hi | hi
 ·rw [h2 i hi];rfl
 ·rw [hd i hi];rfl
theorem NxtOk.strip {p:PlD} {blk c:Nat} {Y:Int→List Nat} (h:NxtOk blk p Y) {ds ys:List Nat} (hY:Y c=ds++ys) (hd:∀i∈ds,p.lk.getD i true=true):NxtOk blk p (fun y=>if y=(c:Int)then ys else Y y):=fun d=>by
 obtain ⟨d0,h1,h2⟩:=h d
 show ∃e,d9 blk p d=e++(if (d:Int)=(c:Int)then ys else Y d)∧_
 by_cases e:d=c
 ·subst e
  rw [if_pos rfl]
  refine ⟨d0++ds,by rw [h1,hY,List.append_assoc],fun i hi=> ?_⟩
  rcases List.mem_append.1 hi with hi | hi
  ·exact h2 i hi
  ·exact hd i hi
 ·rw [if_neg oM]
  exact ⟨d0,h1,h2⟩
section
variable {V0 : World} {G : GraphD} {lim blk b K : Nat} {V : World}
theorem sU (p:PlD) (h:PP V0 G lim blk b K p V) (hs:p.small= []):
  Calls Tryz.prog 195 #[.pointer (some ⟨b,0,none⟩)] V fun e w'=>jG V0 G lim blk b (K+1) p 2 V e w':=by
 have HP:=zH h
 obtain ⟨sv,bv,kv,lv,pv,mv,mp,nm,f,Y,fi,hq⟩:=h
 obtain ⟨sA,sc,rfl, -⟩:=hq.pr.os.form aP dM
 rw [aW]at hq
 have k1:=(aB hq.cel).1
 have HN:Hid (cl (envG G lim blk) 2 p=none):=zH (by
  unfold cl
  have:∀P,cI p P=none:=fun P=>by unfold cI;rw [hs];rfl
  rw [if_pos rfl]
  simp only [this])
 have d0:p.small.length=0:=by rw [hs];rfl
 rw [d0]at k1
 clear hq hs d0
 go_enter Tryz.func195,Tryz.ntmps195
 go_wp2_with fail
 go_ret2
 refine ⟨_,false,rfl,?_,HP.out.mono oM,zy (zo _)⟩
 rw [HN.out]
theorem sV (p:PlD) (h:PP V0 G lim blk b K p V) (hK:K≤100000) (hs:p.small≠ []) (ho:PlOk (envG G lim blk) p) (ht:TopOk p) (hG:RchG G lim blk):
  Calls Tryz.prog 195 #[.pointer (some ⟨b,0,none⟩)] V fun e w'=>jG V0 G lim blk b (K+1) p 2 V e w':=by
 obtain ⟨sv,bv,kv,lv,pv,mv,mp,nm,f,Y,fi,hq⟩:=h
 have hbn:p.begins.length≠0:=fun e=>hs (List.eq_nil_of_length_eq_zero (by rw [←ho.bl,e]))
 obtain ⟨m,hm⟩:∃m,p.begins.length=m+1:=⟨p.begins.length - 1,by omega⟩
 have hzb:=ht.2.2 _ (aH (l:=p.begins) (d:=0) (k:=m) oM)
 have hmet:=ho.met_le
 have hn:=hG.n
 rw [bQ]at hmet
 have htop:=ht.1
 have hbl:=ho.bl
 have hsl:p.small.length=m+1:=by omega
 have hm60:m≤1000:=by unfold PlD.met at hmet;omega
 have hz1:((p.begins.getD m 0:Nat):Int)≤9223372036854775807:=by omega
 have hz0:(0:Int)≤((p.begins.getD m 0:Nat):Int):=by omega
 have hb1:(1:Int)≤(blk:Int):=by have:=hG.bk.1;omega
 obtain ⟨bA,bc,rfl, -⟩:=hq.pr.ob.form aP dM
 obtain ⟨sA,sc,rfl, -⟩:=hq.pr.os.form aP dM
 obtain ⟨kA,kc,rfl, -⟩:=hq.pr.ok.form dK dM
 rw [aW,aW]at hq
 obtain ⟨bg,rfl,_,_⟩:=cT hq.pr.ob (by intro e;have e2:p.begins.length=0:=(by rw [←aW,e];rfl);omega)
 have hll:p.lk.length=m+1:=by rw [ho.ll,hsl]
 obtain ⟨kg,rfl,_,_⟩:=cT hq.pr.ok (fun e=>by rw [e]at hll;simp at hll)
 have cb:=et hq.pr.ob aW (k:=m) oM
 rw [eE (o:=p.begins) (i:=m) oM]at cb
 have HN:Hid (cl (envG G lim blk) 2 p=match cI p (fun x=>decide (x/blk=p.begins.getD m 0/blk))with
  | some i=>some i
  | none=>cI p fun _=>true):=zH (by
  unfold cl
  rw [if_pos rfl,hm,Nat.add_sub_cancel]
  rfl)
 have hw:wrap64 ((p.begins.getD m 0:Nat)/(blk:Int))=((p.begins.getD m 0/blk:Nat):Int):=by
  have h2:=Nat.div_le_self (p.begins.getD m 0) blk
  rw [show ((p.begins.getD m 0:Nat):Int)/(blk:Int)=((p.begins.getD m 0/blk:Nat):Int)from rfl]
  generalize p.begins.getD m 0/blk=q at*
  exact IntWalk.wrap64_in _ ⟨by omega,by omega⟩
 have hkw:(Lit.int .i64 ((p.begins.getD m 0/blk:Nat):Int)).wf=true:=by
  have h2:=Nat.div_le_self (p.begins.getD m 0) blk
  obtain ⟨q,hq⟩:∃q,p.begins.getD m 0/blk=q:=⟨_,rfl⟩
  rw [hq]at h2⊢
  simp [Lit.wf,IntKind.min,IntKind.max,IntKind.signed,IntKind.bits]
  omega
 have HKW:=zH hkw
 have HNM:Hid (nm < maxLen):=zH (by have h1:=hq.nmk;simp only [maxLen];omega)
 have HLL:=zH hll
 have HLT:=zH (fun i (hi:i∈Y ((p.begins.getD m 0/blk:Nat):Int))=>hq.nx.lt _ hi)
 have HSL:=zH hsl
 have HLOW:=zH (fun W K (hW:PP V0 G lim blk b K p W)=>rC p hW ho hG)
 generalize p.begins.getD m 0=z at*
 have l1:=(aO hq.cel).cells
 have k1:=(aB hq.cel).1
 rw [hm,hsl]at k1 l1
 have l3:=aG cb
 have hs0:Ext V V:=zo _
 have jm:wrap64 (((m+1:Nat):Int) - 1)=(m:Int):=by unfold wrap64;omega
 have j0:(0:Int)≤(m:Int):=by omega
 have j1:(m:Int) < ((m+1:Nat):Int):=by omega
 have HQ:=zH hq
 clear hq ho ht hG hs hbn hzb hmet hn htop hbl cb hm hsl hkw hll hK
 go_enter Tryz.func195,Tryz.ntmps195
 go_wp2_with fail
 (refine aC (W:=V) kR kR aS ?_;(repeat (go_big_quiet_step (fail)));refine wpQuiet_nil ?_;intro w1 hx)
 try rw [hw]
 have HX1:=zH hx
 have hqx:=HQ.out.grow hx
 have HQX:=zH hqx
 have hlk:(Instr.lookup 200 (.map (some mp)) (.int .i64 ((z:Int)/(blk:Int))) false).run Tryz.prog w1= .ok (f ((z/blk:Nat):Int)) w1:=hqx.pr.mpv.look (x:=((z/blk:Nat):Int)) HKW.out
 have k1:=(aB hqx.cel).1
 clear hx hs0 l1 l3 jm j0 j1 hw hz0 hz1 hb1 hqx
 go_wp2_with fail
 obtain ⟨A5,c5,hv5, -⟩:=(HQX.out.pr.fam ((z/blk:Nat):Int)).form
 rw [aW]at hv5
 have HF5:=zH hv5
 rw [show f ((z:Int)/(blk:Int))= .slice A5 (Y ((z/blk:Nat):Int)).length c5 from hv5]
 clear hlk hv5 k1
 obtain ⟨wa,rfl⟩:∃wa:World,wa=w1:=⟨_,rfl⟩
 have HX1:=zH HX1.out
 go_loopw [5] (fun l wr=>∃(ds ys:List Nat) (A:Option Addr) (cap:Nat),l= .slice A ys.length cap∧Hid (Y ((z/blk:Nat):Int)=ds++ys)∧Hid (∀i∈ds,p.lk.getD i true=true)∧Hid (OwnO wr V0.heap.size (.slice A ys.length cap) (ordZ ys))∧Hid ((Value.slice A ys.length cap).ownBlock=(f ((z/blk:Nat):Int)).ownBlock∨(Value.slice A ys.length cap).ownBlock=none)∧Hid (Ext wa wr)) (fun l wr=>lenV l)
 case atStart=>exact ⟨[],Y ((z/blk:Nat):Int),A5,c5,rfl,zH rfl,zH sM,zH (by rw [←HF5.out];exact HQX.out.pr.fam _),zH (.inl (by rw [HF5.out])),zH (zo _)⟩
 case round=>
  obtain ⟨ds,ys,A,cap,rfl,HY,HDS,HOW,HBL,HX⟩:=hrel
  have hqr:=HQX.out.grow HX.out
  have HQR:=zH hqr
  have l1:=(aO hqr.cel).cells
  have hs0:Ext wr wr:=zo _
  have HKX:=zH (zy (HX1.out.trans HX.out))
  cases ys with
  | nil=>
   have HFN:Hid (cI p (fun x=>decide (x/blk=z/blk))=none):=zH (nZ (c:=z/blk) hqr.nx (ds:=ds) (ys:= []) HY.out HDS.out)
   clear hqr
   go_wp2_with fail
   (refine aC (W:=wr) kR kR aS ?_;(repeat (go_big_quiet_step (fail)));refine wpQuiet_nil ?_;intro w1 hx)
   obtain ⟨wb,rfl⟩:∃wb:World,wb=w1:=⟨_,rfl⟩
   have HQ2:=zH (HQR.out.grow hx)
   have HOW2:=zH (HOW.out.ext hx)
   have HK2:=zH (HKX.out.trans (zy hx))
   have k1:=(aB HQ2.out.cel).1
   clear hx hs0 l1 HQR HOW HKX
   go_wp2_with (at_mapUpdate;refine ef rfl (.tmp 54) (.tmp 55) (.tmp 56) rfl HQ2.out.pr.mpv rfl HNM.out ((z/blk:Nat):Int) _ rfl rfl HKW.out ?_;intro w3 hm3 hg3;have hpr3:=HQ2.out.pr.put (World.grownBy.refl _ _) HOW2.out (HBL.out.imp id .inl) hm3 hg3;have HQ3:Hid (PP V0 G lim blk b (K+1) p w3):=zH ⟨_,_,_,_,_,_,_,_,_,_,_,jY HQ2.out.pr.mpv HQ2.out.cel hg3,hpr3,HQ2.out.lo,HQ2.out.nx.strip HY.out HDS.out,by have:=HQ2.out.nmk;omega,HQ2.out.fst⟩;have HK3:=zH (HK2.out.trans (KpT.map HQ2.out.pr.mpv hg3));clear hpr3 hm3 hg3 k1)
   refine (HLOW.out _ _ HQ3.out).mono ?_
   rintro e w4 ⟨i,ok,rfl,hi,hp,hk⟩
   go_wp2_with fail
   go_ret2
   refine ⟨i,ok,rfl,?_,hp,HK3.out.trans hk⟩
   rw [HN.out,HFN.out]
   unfold cl at hi
   rw [if_neg dM]at hi
   exact hi
  | cons y ys=>
   obtain ⟨A',c',hA',hc',hco⟩:=HOW.out.form
   injection hA' with hA' hln hcc
   clear hln
   subst hA' hcc
   obtain ⟨g,off,rfl,cy⟩:=hco 0 (by simp [ordZ])
   have cy2:wr.cell? ⟨g,off,none⟩=some (.int .i64 (y:Int)):=by simpa [ordZ]using cy
   have HYS:Hid (y < m+1):=zH (by have:=HLT.out y (by rw [HY.out];simp);have:=HSL.out;omega)
   have ck:=eO hqr.pr.ok rfl (k:=y) (by have:=HYS.out;have:=HLL.out;omega)
   have l2:=aG cy2
   have l3:=aG ck
   have hcap:ys.length+1≤cap:=by rw [aW]at hc';simpa using hc'
   have jb0:(y:Int) < (p.lk.length:Int):=by have:=HYS.out;have:=HLL.out;omega
   have jb1:(0:Int)≤(y:Int):=by omega
   clear hqr cy cy2 ck hco hc'
   have ht:=HOW.out
   rw [List.length_cons]at ht
   obtain ⟨ht2, -, -⟩:=OwnO.tail (A:=none) (x:=(y:Int)) (xs:=ordZ ys) ht
   rw [Nat.add_sub_cancel]at ht2
   have HOT:=zH ht2
   have hgt:p.lk.getD y true=p.lk.getD y false:=by rw [aU (l:=p.lk) (i:=y) (d:=true) oM,aU (l:=p.lk) (i:=y) (d:=false) oM]
   have HGT:=zH hgt
   clear ht ht2 hgt
   cases hb:p.lk.getD y false with
   | true=>
    have HDS2:Hid (∀i∈ds++ [y],p.lk.getD i true=true):=zH (fun i hi=>by
     rcases List.mem_append.1 hi with hi | hi
     ·exact HDS.out i hi
     ·rw [List.mem_singleton.1 hi,HGT.out,hb])
    rw [hb]at l3
    go_wp2_with fail
    (refine aC (W:=wr) kR kR aS ?_;(repeat (go_big_quiet_step (fail)));refine wpQuiet_nil ?_;intro w1 hx)
    have HOT2:=zH (HOT.out.ext hx)
    have HX2:=zH (HX.out.trans hx)
    have HBL2:Hid ((Value.slice (if cap=1 then some ⟨g,off,none⟩else some ⟨g,off+1,none⟩) ys.length (cap - 1)).ownBlock=(f ((z/blk:Nat):Int)).ownBlock∨(Value.slice (if cap=1 then some ⟨g,off,none⟩else some ⟨g,off+1,none⟩) ys.length (cap - 1)).ownBlock=none):=zH (by have:=HBL.out;split <;>exact this)
    clear hs0 l1 l2 l3 hx HQR
    go_wp2_with fail
    go_roundw
    case rel=>exact ⟨ds++ [y],ys,if cap=1 then some ⟨g,off,none⟩else some ⟨g,off+1,none⟩,cap - 1,rfl,zH (by rw [HY.out];simp),HDS2,HOT2,HBL2,HX2⟩
    case measure=>simp [lenV]
   | false=>
    have HFN:Hid (cI p (fun x=>decide (x/blk=z/blk))=some y):=zH (by rw [nZ (c:=z/blk) HQR.out.nx (ds:=ds) (ys:=y::ys) HY.out HDS.out,List.find?_cons,HGT.out,hb];rfl)
    rw [hb]at l3
    go_wp2_with fail
    (refine aC (W:=wr) kR kR aS ?_;(repeat (go_big_quiet_step (fail)));refine wpQuiet_nil ?_;intro w1 hx)
    obtain ⟨wb,rfl⟩:∃wb:World,wb=w1:=⟨_,rfl⟩
    have HQ2:=zH (HQR.out.grow hx)
    have HOW2:=zH (HOW.out.ext hx)
    have HK2:=zH (HKX.out.trans (zy hx))
    have k1:=(aB HQ2.out.cel).1
    clear hx hs0 l1 l2 l3 HQR HOW HKX
    go_wp2_with (at_mapUpdate;refine ef rfl (.tmp 54) (.tmp 55) (.tmp 56) rfl HQ2.out.pr.mpv rfl HNM.out ((z/blk:Nat):Int) _ rfl rfl HKW.out ?_;intro w3 hm3 hg3;have hpr3:=HQ2.out.pr.put (World.grownBy.refl _ _) HOW2.out (HBL.out.imp id .inl) hm3 hg3;have hq3:PQ V0 G lim blk b _ _ _ _ _ _ _ _ _ _ (K+1) _ p w3:=⟨jY HQ2.out.pr.mpv HQ2.out.cel hg3,hpr3,HQ2.out.lo,HQ2.out.nx.strip HY.out HDS.out,by have:=HQ2.out.nmk;omega,HQ2.out.fst⟩;have HQ3:Hid (PP V0 G lim blk b (K+1) p w3):=zH ⟨_,_,_,_,_,_,_,_,_,_,_,hq3⟩;have hf3:=hpr3.fam ((z/blk:Nat):Int);simp only [if_true]at hf3;obtain ⟨A',c',hA',_,hco⟩:=hf3.form;injection hA' with hA' hln hcc;clear hln;obtain ⟨g',off',hgo,cy3⟩:=hco 0 (by simp [ordZ]);rw [←hA']at hgo;injection hgo with hgo;injection hgo with e1 e2;subst e1 e2;rw [show (ordZ (y::ys)).getD 0 0=(y:Int)from rfl,Nat.add_zero]at cy3;have HK3:=zH (HK2.out.trans (KpT.map HQ2.out.pr.mpv hg3));clear hpr3 hq3 hf3 hA' hcc hco hm3 hg3 k1)
    go_ret2
    refine ⟨_,true,rfl,?_,HQ3.out,HK3.out⟩
    rw [HN.out,HFN.out]
    exact ⟨rfl,rfl⟩
end
end Go.Proofs.YtphpppjfogpohaaGreat
