/- Merged by program (merge.py) out of: RchD, RchE, RchF, RchG, RchU, CnP. -/
import Derived.Test.YtphpppjfogpohaaGreatMq0
import Derived.Handy
import Derived.Test.YtphpppjfogpohaaGreatMq36
import Derived.Test.YtphpppjfogpohaaGreatMq32
set_option linter.unusedSimpArgs false
set_option linter.unusedVariables false
set_option maxRecDepth 100000
set_option maxHeartbeats 16000000
namespace Go.Proofs.YtphpppjfogpohaaGreat
open Go.RowKit Go.Shelf
theorem jd {α β:Type} {f:α→β→α} {a:α} {l:List β} {k:Nat} {d:β} (hk:k < l.length):(l.take (k+1)).foldl f a=f ((l.take k).foldl f a) (l.getD k d):=by
 rw [List.take_add_one,List.getElem?_eq_getElem hk,Option.toList_some,List.foldl_append,aW hk]
 rfl
theorem wy {E:PlE} {p:PlD} {v:Int×Int} (h:newP E p v=false):meetP E true p v=meetP E false p v:=by
 unfold newP at h
 unfold meetP
 by_cases hf:p.fresh v=true
 ·rw [if_pos hf,if_pos hf]
  rw [hf]at h
  simp at h
  rw [if_pos h,if_pos h]
 ·rw [if_neg hf,if_neg hf]
theorem uk {E:PlE} {p:PlD} {v:Int×Int} (hl:p.lk.length=p.small.length) (h:newP E p v=true):(meetP E false p v).looked p.small.length=meetP E true p v:=by
 obtain ⟨h1,h2⟩:=fF.1 h
 unfold meetP
 rw [if_pos h1,if_pos h1,if_neg oM,if_neg oM]
 simp [PlD.addS,PlD.looked,←hl]
theorem sL {E:PlE} {p:PlD} {v:Int×Int} {mk:Bool} (h:newP E p v=true):p.small.length < (meetP E mk p v).small.length:=by
 obtain ⟨h1,h2⟩:=fF.1 h
 unfold meetP
 rw [if_pos h1,if_neg oM]
 simp [PlD.addS]
section
variable {V0 : World} {G : GraphD} {lim blk b : Nat} {V : World}
theorem sN (p:PlD) (l:List (Int×Int)) (A:Option Addr) (cap:Nat) (h:RP V0 G lim blk b p V) (hV:GraphAt V0 G) (hl:SpansAt V0 A l) (hll:l.length≤8796093022208) (hv:bF G.ns.length l) (ho:PlOk (envG G lim blk) p) (ht:TopOk p) (hG:RchG G lim blk):
  Calls Tryz.prog 196 #[.pointer (some ⟨b,0,none⟩),.slice A l.length cap,.bool false] V fun e w'=>e= .returned (.tuple #[])∧RP V0 G lim blk b (allP (envG G lim blk) false p l) w':=by
 have H:=zH h
 have HVG:=zH hV
 have HL:=zH hl
 have HV:=zH hv
 have HO:=zH ho
 have HT:=zH ht
 have HG:=zH hG
 clear h hV hl hv ho ht hG
 go_enter Tryz.func196,Tryz.ntmps196
 go_wp2_with fail
 go_loopw [6] (fun i wr=>∃k:Nat,k≤l.length∧i= .int .i64 k∧Hid (RP V0 G lim blk b (allP (envG G lim blk) false p (l.take k)) wr)) (fun i _=>l.length - (intOf i).toNat)
 case atStart=>exact ⟨0,by omega,rfl,H⟩
 case round=>
  obtain ⟨k,hk,rfl,HR⟩:=hrel
  by_cases hlt:k < l.length
  rotate_left
  ·rw [List.take_of_length_le oM]at HR
   go_wp2_with fail
   go_returns
   exact ⟨rfl,HR.out⟩
  have hvk:bF G.ns.length (l.take k):=fun v hv=>HV.out v (List.mem_of_mem_take hv)
  have HO2:=zH (PlOk.all (mk:=false) (E:=envG G lim blk) HO.out (by rw [aX];exact hvk))
  have HT2:=zH (TopOk.all (mk:=false) HG.out HT.out hvk)
  have HE:Hid (allP (envG G lim blk) false p (l.take (k+1))=meetP (envG G lim blk) false (allP (envG G lim blk) false p (l.take k)) (l.getD k (0,0))):=zH (jd hlt)
  have HVK:=zH (HV.out _ (aF (d:=(0,0)) hlt))
  obtain ⟨lb,off,rfl,hc⟩:=HL.out.get oM
  obtain ⟨e1,e2⟩:=aQ hc hlt
  have hxr:=HR.out.ext
  have c1:=hxr.cell e1
  have c2:=hxr.cell e2
  obtain ⟨sA,sc,bA,bc,kA,kc,lA,lc,pA,pc,hq⟩:=HR.out
  have k1:=(aB hq.blk).1
  have ib0:(0:Int)≤(k:Int):=by omega
  have ib1:(k:Int) < (l.length:Int):=by omega
  clear hc e1 e2 hxr hvk hq
  generalize l.getD k (0,0)=v at*
  generalize allP (envG G lim blk) false p (l.take k)=q at*
  go_wp2_with fail
  refine (nR HR.out HVG.out v HVK.out HO2.out HT2.out HG.out).mono ?_
  rintro e w1 ⟨rfl,hr⟩
  rw [←HE.out]at hr
  have HR2:=zH hr
  clear hr HE HR HO2 HT2 k1 c1 c2
  generalize newP (envG G lim blk) q v=nb at*
  cases nb
  all_goals
   go_wp2_with fail
   go_roundw
   case rel=>exact ⟨k+1,by omega,by go_num,HR2⟩
   case measure=>simp [intOf];omega
theorem sO (hV:GraphAt V0 G) (hG:RchG G lim blk):∀(f:Nat) (p:PlD) (l:List (Int×Int)) (A:Option Addr) (cap:Nat) (V:World),RP V0 G lim blk b p V→SpansAt V0 A l→l.length≤8796093022208→bF G.ns.length l→PlOk (envG G lim blk) p→TopOk p→G.ns.length < f+p.met→
  Calls Tryz.prog 196 #[.pointer (some ⟨b,0,none⟩),.slice A l.length cap,.bool true] V fun e w'=>e= .returned (.tuple #[])∧RP V0 G lim blk b (deepP (envG G lim blk) true f p l) w':=by
 have HVG:=zH hV
 have HG:=zH hG
 clear hV hG
 intro f
 induction f with
 | zero=>
  intro p l A cap V h hl hll hv ho ht hf
  have:=ho.met_le
  rw [aX]at this
  omega
 | succ f ih=>
 intro p l A cap V h hl hll hv ho ht hf
 have IH:=zH ih
 have H:=zH h
 have HL:=zH hl
 have HV:=zH hv
 have HO:=zH ho
 have HT:=zH ht
 have HF:=zH hf
 clear h hl hv ho ht ih hf
 go_enter Tryz.func196,Tryz.ntmps196
 go_wp2_with fail
 go_loopw [6] (fun i wr=>∃k:Nat,k≤l.length∧i= .int .i64 k∧Hid (RP V0 G lim blk b (deepP (envG G lim blk) true (f+1) p (l.take k)) wr)) (fun i _=>l.length - (intOf i).toNat)
 case atStart=>exact ⟨0,by omega,rfl,H⟩
 case round=>
  obtain ⟨k,hk,rfl,HR⟩:=hrel
  by_cases hlt:k < l.length
  rotate_left
  ·rw [List.take_of_length_le oM]at HR
   go_wp2_with fail
   go_returns
   exact ⟨rfl,HR.out⟩
  have hvk:bF G.ns.length (l.take k):=fun v hv=>HV.out v (List.mem_of_mem_take hv)
  obtain ⟨ho2,hm2⟩:=PlOk.deep (mk:=true) (E:=envG G lim blk) HG.out.env (f+1) p (l.take k) HO.out (by rw [aX];exact hvk)
  have HO2:=zH ho2
  have HF2:Hid (G.ns.length < f+1+(deepP (envG G lim blk) true (f+1) p (l.take k)).met):=zH (by have:=HF.out;omega)
  have HT2:=zH (TopOk.deep (mk:=true) HG.out (f+1) p _ HT.out hvk)
  have HE:Hid (deepP (envG G lim blk) true (f+1) p (l.take (k+1))=oneP (envG G lim blk) true f (deepP (envG G lim blk) true (f+1) p (l.take k)) (l.getD k (0,0))):=zH (jd hlt)
  have HVK:=zH (HV.out _ (aF (d:=(0,0)) hlt))
  obtain ⟨lb,off,rfl,hc⟩:=HL.out.get oM
  obtain ⟨e1,e2⟩:=aQ hc hlt
  have E1:=zH e1
  have E2:=zH e2
  have hxr:=HR.out.ext
  have c1:=hxr.cell e1
  have c2:=hxr.cell e2
  obtain ⟨sA,sc,bA,bc,kA,kc,lA,lc,pA,pc,hq⟩:=HR.out
  have k1:=(aB hq.blk).1
  have ib0:(0:Int)≤(k:Int):=by omega
  have ib1:(k:Int) < (l.length:Int):=by omega
  clear hc e1 e2 hxr hvk hq ho2 hm2
  generalize l.getD k (0,0)=v at*
  generalize deepP (envG G lim blk) true (f+1) p (l.take k)=q at*
  go_wp2_with fail
  refine (nR HR.out HVG.out v HVK.out HO2.out HT2.out HG.out).mono ?_
  rintro e w1 ⟨rfl,hr⟩
  cases hn:newP (envG G lim blk) q v with
  | false=>
   rw [←wy hn,show meetP (envG G lim blk) true q v=oneP (envG G lim blk) true f q v by rw [oneP,if_neg (by rw [hn];decide)],←HE.out]at hr
   have HR2:=zH hr
   clear hr HE HR HO2 HT2 k1 c1 c2 hn
   go_wp2_with fail
   go_roundw
   case rel=>exact ⟨k+1,by omega,by go_num,HR2⟩
   case measure=>simp [intOf];omega
  | true=>
   have HN:=zH hn
   have hvn:=jZ (E:=envG G lim blk) (by rw [aX];exact HVK.out) hn
   have hx2:v.1=2:=(AQ.1 (fF.1 hn).1).1
   obtain ⟨hx0,hx1⟩:=HVK.out hx2
   obtain ⟨x,hvx⟩:=Int.eq_ofNat_of_zero_le hx0
   rw [hvx]at c2
   have hxl:x < G.ns.length:=by omega
   obtain ⟨nb,noff,hA,hcn⟩:=HVG.out.nodes.row.get oM
   obtain ⟨d0,d1,d2⟩:=ah hcn hxl
   have hlen:=sL (mk:=false) hn
   obtain ⟨sA2,sc2,bA2,bc2,kA2,kc2,lA2,lc2,pA2,pc2,hq2⟩:=hr
   have hlk2:(meetP (envG G lim blk) false q v).lk.length=(meetP (envG G lim blk) false q v).small.length:=(HO2.out.meet fun e=>by rw [aX];have:=HVK.out e;omega).ll
   have hne:(meetP (envG G lim blk) false q v).lk≠ []:=fun e=>by rw [e]at hlk2;simp at hlk2;omega
   obtain ⟨kg,rfl,hkg,hkl⟩:=bR hq2.ok hne
   have HQ2:=zH hq2
   have HML:=zH (uk HO2.out.ll hn)
   have HOM:=zH (HO2.out.meet (mk:=true) fun e=>by rw [aX];have:=HVK.out e;omega)
   have HTM:=zH (HT2.out.meet (mk:=true) HG.out HVK.out)
   have HFM:Hid (G.ns.length < f+(meetP (envG G lim blk) true q v).met):=zH (by rw [jA hn];have:=HF2.out;omega)
   have HFS:Hid ((envG G lim blk).fs x=(G.ns.getD x default).fields):=zH (fT x hxl)
   have HNA:=zH (HVG.out.nodes.each _ (aF (d:=default) hxl))
   have HNV:Hid (bF G.ns.length (G.ns.getD x default).fields):=zH (by
    have:=HG.out.env x (by rw [aX];exact hxl)
    rw [aX,HFS.out]at this
    exact this)
   have HNF:=zH (HG.out.f _ (aF (d:=default) hxl))
   have HEQ:Hid (oneP (envG G lim blk) true f q v=deepP (envG G lim blk) true f (meetP (envG G lim blk) true q v) (G.ns.getD x default).fields):=zH (by
    rw [oneP,if_pos hn,show v.2.toNat=x by omega,HFS.out])
   have k2:=(aB hq2.blk).1
   obtain ⟨kcur,hkc⟩:=ci hq2.ok
   have fk:=(aB hkc).2
   have ck:=cd hq2.ok rfl (k:=q.small.length) oM
   have jb0:(q.small.length:Int) < ((meetP (envG G lim blk) false q v).lk.length:Int):=by omega
   have jb1:(0:Int)≤(q.small.length:Int):=by omega
   have jx0:(0:Int)≤(x:Int):=by omega
   have jx1:(x:Int) < (G.ns.length:Int):=by omega
   rw [hA]at k2
   have D0:=zH d0
   have D1:=zH d1
   have D2:=zH d2
   clear hq2 HR HO2 HT2 k1 c1 c2 hvn hx2 hx0 hx1 hxl hcn d0 d1 d2 hlen hlk2 hne hkg hkl hkc hn HVK HF2
   generalize G.ns.getD x default=y at*
   generalize meetP (envG G lim blk) false q v=q2 at*
   generalize hqs:q.small.length=qs at*
   clear hqs
   go_wp2_with fail
   have hq3:=HQ2.out.look rfl qs
   rw [HML.out]at hq3
   generalize w1.setCell ⟨kg,qs,none⟩ (.bool true)=W2 at*
   have HR3:Hid (RP V0 G lim blk b (meetP (envG G lim blk) true q v) W2):=zH ⟨_,_,_,_,_,_,_,_,_,_,hq3⟩
   have hx3:=hq3.ext
   have l1:=(aP hq3.blk).cells
   simp only [hA]at l1
   have l2:=aJ (hx3.cell E2.out)
   rw [hvx]at l2
   have l3:=aJ (hx3.cell D0.out)
   have l4:=aJ (hx3.cell D1.out)
   have l5:=aJ (hx3.cell D2.out)
   have hs0:Ext W2 W2:=AD _
   clear k2 fk ck jb0 jb1 HQ2 hq3
   (refine cc (W:=W2) 14 kR kR aS ?_;simp only [List.take_succ_cons,List.take_zero,List.drop_succ_cons,List.drop_zero];(repeat (go_big_quiet_step (fail)));refine wpQuiet_nil ?_;intro w1 hx)
   have HR4:=zH (HR3.out.grow hx)
   clear hx hs0 l1 l2 l3 l4 l5 HR3
   go_wp2_with fail
   refine (IH.out _ _ y.fA y.fcap _ HR4.out HNA.out.fields (by have:=HNF.out;omega) HNV.out HOM.out HTM.out HFM.out).mono ?_
   rintro e w5 ⟨rfl,hr⟩
   rw [←HEQ.out,←HE.out]at hr
   have HR5:=zH hr
   clear hr HR4
   go_wp2_with fail
   go_roundw
   case rel=>exact ⟨k+1,by omega,by go_num,HR5⟩
   case measure=>simp [intOf];omega
end
def fU (p:PlD) (P:Nat→Bool) (i:Nat):Bool:= !p.lk.getD i true && P (p.begins.getD i 0)
theorem lx {p:PlD} {P:Nat→Bool} {k:Nat} (hk:k < p.small.length) (h:fU p P k=true) (hq:∀i,i < k→fU p P i=false):firstP p P=some k:=by
 unfold firstP
 rw [List.find?_eq_some_iff_getElem]
 refine ⟨h,k,by simpa using hk,by simp,fun j hj=> ?_⟩
 have:=hq j hj
 unfold fU at this
 rw [List.getElem_range,this]
 rfl
theorem iH {p:PlD} {P:Nat→Bool} (hq:∀i,i < p.small.length→fU p P i=false):firstP p P=none:=by
 unfold firstP
 rw [List.find?_eq_none]
 intro x hx
 have:=hq x (List.mem_range.1 hx)
 unfold fU at this
 rw [this]
 decide
def optZ:Option Nat→Int
 | none=> -1
 | some i=>i
def eK (blk:Nat):Option Nat→Nat→Bool
 | none,_=>true
 | some c,x=>decide (x/blk=c)
section
variable {V0 : World} {G : GraphD} {lim blk b : Nat} {V : World} {p : PlD}
theorem sP (h:RP V0 G lim blk b p V) (ho:PlOk (envG G lim blk) p) (ht:TopOk p) (hG:RchG G lim blk) (c:Option Nat):
  Calls Tryz.prog 223 #[.pointer (some ⟨b,0,none⟩),.int .i64 (optZ c)] V fun e w'=>e= .returned (.int .i64 (optZ (firstP p (eK blk c))))∧Ext V w':=by
 obtain ⟨sA,sc,bA,bc,kA,kc,lA,lc,pA,pc,hq⟩:=h
 have HQ:Pers V (fun w=>RQ V0 G lim blk b sA sc bA bc kA kc lA lc pA pc p w):=fun w k=>hq.grow k
 have hmet:=ho.met_le
 have hn:=hG.n
 rw [aX]at hmet
 unfold PlD.met at hmet
 have hsl:p.small.length≤1000:=by omega
 have HLL:=zH ho.ll
 have HBL:=zH ho.bl
 have hb1:(1:Int)≤(blk:Int):=by have:=hG.bk.1;omega
 have HTP:Hid (∀x∈p.begins,x≤9000000):=zH fun x hx=>by have h1:=ht.2.2 x hx;have h2:=ht.1;omega
 clear hq hmet hn ho ht
 go_enter Tryz.func223,Tryz.ntmps223
 go_wp2_with fail
 go_loopw [5] (fun i wr=>∃k:Nat,k≤p.small.length∧i= .int .i64 k∧Ext V wr∧Hid (∀i,i < k→fU p (eK blk c) i=false)) (fun i _=>p.small.length - (intOf i).toNat)
 case atStart=>exact ⟨0,by omega,rfl,AD _,zH oM⟩
 case round=>
  obtain ⟨k,hk,rfl,hxr,HC⟩:=hrel
  have hqr:=HQ.at hxr
  have k1:=(aB hqr.blk).1
  by_cases hlt:k < p.small.length
  rotate_left
  ·have HM:=zH (iH (p:=p) (P:=eK blk c) fun i hi=>HC.out i oM)
   have dk:decide (k < p.small.length)=false:=by simpa using hlt
   go_wp2_with fail
   go_ret
   exact ⟨aZ (by rw [HM.out];rfl),hxr⟩
  have dk:decide (k < p.small.length)=true:=by simpa using hlt
  have HIT:=zH (fun h=>lx (p:=p) (P:=eK blk c) hlt h HC.out)
  have HNX:Hid (fU p (eK blk c) k=false→∀i,i < k+1→fU p (eK blk c) i=false):=zH (fun h i hi=>by
   rcases Nat.lt_or_ge i k with h' | h'
   ·exact HC.out i h'
   ·obtain rfl:i=k:=by omega
    exact h)
  obtain ⟨kg,rfl,_,_⟩:=bR hqr.ok (fun e=>by have:=HLL.out;rw [e]at this;simp at this;omega)
  obtain ⟨bg, rfl, _, _⟩ := bR hqr.ob (fun e => by have := HBL.out; have e2 : p.begins.length = 0 := by rw [← aN, e]; rfl
                                                   omega)
  have ck:=cd hqr.ok rfl (k:=k) (by have:=HLL.out;omega)
  have cb:=eP hqr.ob aN (k:=k) (by have:=HBL.out;omega)
  rw [dY (o:=p.begins) (i:=k) (by have:=HBL.out;omega)]at cb
  have hcond:fU p (eK blk c) k=(!p.lk.getD k false && eK blk c (p.begins.getD k 0)):=by
   unfold fU
   rw [aW (l:=p.lk) (i:=k) (d:=true) (by have:=HLL.out;omega),aW (l:=p.lk) (i:=k) (d:=false) (by have:=HLL.out;omega)]
  have HCD:=zH hcond
  have jb0:(k:Int) < (p.lk.length:Int):=by have:=HLL.out;omega
  have jb1:(k:Int) < (p.begins.length:Int):=by have:=HBL.out;omega
  have jb2:(0:Int)≤(k:Int):=by omega
  have hz1:((p.begins.getD k 0:Nat):Int)≤9223372036854775807:=by have:=HTP.out _ (aF (l:=p.begins) (d:=0) (k:=k) (by have:=HBL.out;omega));omega
  have hz0:(0:Int)≤((p.begins.getD k 0:Nat):Int):=by omega
  have l1:=(aP hqr.blk).cells
  have l2:=aJ ck
  have l3:=aJ cb
  have hs0:Ext wr wr:=AD _
  have HLT:=zH hlt
  clear hcond ck cb hqr HC hlt
  generalize p.begins.getD k 0=z at*
  generalize p.lk.getD k false=kb at*
  cases kb with
  | true=>
   have HN:=zH (HNX.out (by rw [HCD.out];rfl))
   clear HNX HIT HCD
   go_wp2_with fail
   (refine aC (W:=wr) kR kR aS ?_;(repeat (go_big_quiet_step (fail)));refine wpQuiet_nil ?_;intro w1 hx)
   go_wp2_with fail
   go_roundw
   case rel=>exact ⟨k+1,by have:=HLT.out;omega,by go_num,hxr.trans hx,HN⟩
   case measure=>have:=HLT.out;simp [intOf];omega
  | false=>
   cases c with
   | none=>
    have HI:=zH (HIT.out (by rw [HCD.out];rfl))
    clear HNX HIT HCD
    simp only [optZ]
    go_wp2_with fail
    (refine aC (W:=wr) kR kR aS ?_;(repeat (go_big_quiet_step (fail)));refine wpQuiet_nil ?_;intro w1 hx)
    go_wp2_with fail
    go_ret
    exact ⟨aZ (by rw [HI.out];rfl),hxr.trans hx⟩
   | some c=>
    have dc:decide (((c:Nat):Int) < 0)=false:=by simp
    simp only [optZ]
    have hw:wrap64 ((z:Int)/(blk:Int))=((z/blk:Nat):Int):=by
     have h2:=Nat.div_le_self z blk
     rw [show (z:Int)/(blk:Int)=((z/blk:Nat):Int)from rfl]
     generalize z/blk=q at*
     exact IntWalk.wrap64_in _ ⟨by omega,by omega⟩
    by_cases hz:z/blk=c
    ·have HI:=zH (HIT.out (by rw [HCD.out];simp [eK,hz]))
     have dz:(wrap64 ((z:Int)/(blk:Int))==(c:Int))=true:=by rw [hw,beq_iff_eq,hz]
     clear HNX HIT HCD hz hw
     go_wp2_with fail
     (refine aC (W:=wr) kR kR aS ?_;(repeat (go_big_quiet_step (fail)));refine wpQuiet_nil ?_;intro w1 hx)
     go_wp2_with fail
     go_ret
     exact ⟨aZ (by rw [HI.out];rfl),hxr.trans hx⟩
    ·have HN:=zH (HNX.out (by rw [HCD.out];simp [eK,hz]))
     have dz:(wrap64 ((z:Int)/(blk:Int))==(c:Int))=false:=by rw [hw,beq_eq_false_iff_ne];omega
     clear HNX HIT HCD hz hw
     go_wp2_with fail
     (refine aC (W:=wr) kR kR aS ?_;(repeat (go_big_quiet_step (fail)));refine wpQuiet_nil ?_;intro w1 hx)
     go_wp2_with fail
     go_roundw
     case rel=>exact ⟨k+1,by have:=HLT.out;omega,by go_num,hxr.trans hx,HN⟩
     case measure=>have:=HLT.out;simp [intOf];omega
theorem ul (h:RP V0 G lim blk b p V) (ho:PlOk (envG G lim blk) p) (ht:TopOk p) (hG:RchG G lim blk) (o:Nat) (hoo:o≤2):
  Calls Tryz.prog 197 #[.pointer (some ⟨b,0,none⟩),.int .i64 o] V fun e w'=>e= .returned (.int .i64 (optZ (cB (envG G lim blk) o p)))∧Ext V w':=by
 obtain ⟨sA,sc,bA,bc,kA,kc,lA,lc,pA,pc,hq⟩:=h
 have HQ:Pers V (fun w=>RQ V0 G lim blk b sA sc bA bc kA kc lA lc pA pc p w):=fun w k=>hq.grow k
 have HF:=zH (fun (c:Option Nat) w (hw:RQ V0 G lim blk b sA sc bA bc kA kc lA lc pA pc p w)=>sP ⟨_,_,_,_,_,_,_,_,_,_,hw⟩ ho ht hG c)
 have k1:=(aB hq.blk).1
 by_cases h2:o=2
 rotate_left
 ·have HN:Hid (cB (envG G lim blk) o p=firstP p (eK blk none)):=zH (by unfold cB;rw [if_neg h2];rfl)
  have d2:((o:Int)==2)=false:=by rw [beq_eq_false_iff_ne];omega
  have Z:∀w,RQ V0 G lim blk b sA sc bA bc kA kc lA lc pA pc p w→Calls Tryz.prog 223 #[.pointer (some ⟨b,0,none⟩),.int .i64 (-1)] w fun e w'=>e= .returned (.int .i64 (optZ (firstP p (eK blk none))))∧Ext w w':=HF.out none
  have HZ:=zH Z
  clear HF Z hq ho ht hG h2
  go_enter Tryz.func197,Tryz.ntmps197
  go_wp2_with fail
  refine (HZ.out _ HQ.here).mono ?_
  rintro e w1 ⟨rfl,hx⟩
  go_wp2_with fail
  go_ret
  exact ⟨aZ (by rw [HN.out]),hx⟩
 subst h2
 by_cases hs:p.small= []
 ·have hb:p.begins= []:=List.eq_nil_of_length_eq_zero (by rw [ho.bl,hs];rfl)
  have HN:Hid (cB (envG G lim blk) 2 p=firstP p (eK blk none)):=zH (by
   unfold cB
   rw [if_pos rfl]
   have:∀P,firstP p P=none:=fun P=>by unfold firstP;rw [hs];rfl
   simp only [this])
  have Z:∀w,RQ V0 G lim blk b sA sc bA bc kA kc lA lc pA pc p w→Calls Tryz.prog 223 #[.pointer (some ⟨b,0,none⟩),.int .i64 (-1)] w fun e w'=>e= .returned (.int .i64 (optZ (firstP p (eK blk none))))∧Ext w w':=HF.out none
  have HZ:=zH Z
  have d0:p.small.length=0:=by rw [hs];rfl
  rw [d0]at k1
  clear HF Z hq ho ht hG hs hb d0
  go_enter Tryz.func197,Tryz.ntmps197
  go_wp2_with fail
  refine (HZ.out _ HQ.here).mono ?_
  rintro e w1 ⟨rfl,hx⟩
  go_wp2_with fail
  go_ret
  exact ⟨aZ (by rw [HN.out]),hx⟩
 ·have hbn:p.begins.length≠0:=fun e=>hs (List.eq_nil_of_length_eq_zero (by rw [←ho.bl,e]))
  obtain ⟨m,hm⟩:∃m,p.begins.length=m+1:=⟨p.begins.length - 1,by omega⟩
  have hzb:=ht.2.2 _ (aF (l:=p.begins) (d:=0) (k:=m) oM)
  have hmet:=ho.met_le
  have hn:=hG.n
  rw [aX]at hmet
  unfold PlD.met at hmet
  have htop:=ht.1
  have hbl:=ho.bl
  have hz1:((p.begins.getD m 0:Nat):Int)≤9223372036854775807:=by omega
  have hz0:(0:Int)≤((p.begins.getD m 0:Nat):Int):=by omega
  have hb1:(1:Int)≤(blk:Int):=by have:=hG.bk.1;omega
  obtain ⟨bg, rfl, _, _⟩ := bR hq.ob (fun e => by have e2 : p.begins.length = 0 := by rw [← aN, e]; rfl
                                                  omega)
  have cb:=eP hq.ob aN (k:=m) oM
  rw [dY (o:=p.begins) (i:=m) oM]at cb
  have hns:∃n,p.small.length=n+1:=⟨m,by omega⟩
  obtain ⟨n,hns⟩:=hns
  have hm60:m≤1000:=by omega
  have HN:Hid (cB (envG G lim blk) 2 p=match firstP p (eK blk (some (p.begins.getD m 0/blk)))with
   | some i=>some i
   | none=>firstP p (eK blk none)):=zH (by
   unfold cB
   rw [if_pos rfl,hm,Nat.add_sub_cancel]
   rfl)
  have hw:wrap64 ((p.begins.getD m 0:Nat)/(blk:Int))=((p.begins.getD m 0/blk:Nat):Int):=by
   have h2:=Nat.div_le_self (p.begins.getD m 0) blk
   rw [show ((p.begins.getD m 0:Nat):Int)/(blk:Int)=((p.begins.getD m 0/blk:Nat):Int)from rfl]
   generalize p.begins.getD m 0/blk=q at*
   exact IntWalk.wrap64_in _ ⟨by omega,by omega⟩
  generalize p.begins.getD m 0=z at*
  have HZ:=zH (fun u:ExtOf V=>HF.out (some (z/blk)) u.1 (HQ u.1 u.2))
  have HZ2:Hid (∀w,RQ V0 G lim blk b sA sc (some ⟨bg,0,none⟩) bc kA kc lA lc pA pc p w→Calls Tryz.prog 223 #[.pointer (some ⟨b,0,none⟩),.int .i64 (-1)] w fun e w'=>e= .returned (.int .i64 (optZ (firstP p (eK blk none))))∧Ext w w'):=zH (HF.out none)
  simp only [show optZ (some (z/blk))=((z/blk:Nat):Int)from rfl,←hw]at HZ
  generalize firstP p (eK blk (some (z/blk)))=r1 at*
  have HW:=zH hw
  have l1:=(aP hq.blk).cells
  rw [hm,hns]at l1
  rw [hns,hm]at k1
  have l3:=aJ cb
  have hs0:Ext V V:=AD _
  have jm:wrap64 (((m+1:Nat):Int) - 1)=(m:Int):=by unfold wrap64;omega
  have j0:(0:Int)≤(m:Int):=by omega
  have j1:(m:Int) < ((m+1:Nat):Int):=by omega
  clear HF hq ho ht hG hs hbn hzb hmet hn htop hbl cb hw hm hns
  cases r1 with
  | some i=>
   go_enter Tryz.func197,Tryz.ntmps197
   go_wp2_with fail
   (refine aC (W:=V) kR kR aS ?_;(repeat (go_big_quiet_step (first | (go_at_call 223;with_reducible exact AE (HZ.out _)))));refine wpQuiet_nil ?_;intro w1 hx)
   go_wp2_with fail
   go_ret
   exact ⟨aZ (by rw [HN.out]),hx⟩
  | none=>
   go_enter Tryz.func197,Tryz.ntmps197
   go_wp2_with fail
   (refine aC (W:=V) kR kR aS ?_;(repeat (go_big_quiet_step (first | (go_at_call 223;with_reducible exact AE (HZ.out _)))));refine wpQuiet_nil ?_;intro w1 hx)
   go_wp2_with fail
   refine (HZ2.out _ (HQ.at hx)).mono ?_
   rintro e w2 ⟨rfl,hx2⟩
   go_wp2_with fail
   go_ret
   exact ⟨aZ (by rw [HN.out]),hx.trans hx2⟩
end
theorem jD {P:Nat→Prop} (h:∃n,P n):∃n,P n∧∀m,P m→n≤m:=by
 obtain ⟨n,hn⟩:=h
 induction n using Nat.strongRecOn with
 | _ n ih=>
  by_cases hl:∃m,m < n∧P m
  ·obtain ⟨m,hm,hp⟩:=hl
   exact ih m hm hp
  ·exact ⟨n,hn,fun m hm=>Nat.le_of_not_lt fun hlt=>hl ⟨m,hlt,hm⟩⟩
noncomputable def leastN (P:Nat→Prop):Nat:=open Classical in if h:∃n,P n then Classical.choose (jD h)else 0
theorem cH {P:Nat→Prop} (h:∃n,P n):P (leastN P)∧∀m,P m→leastN P≤m:=by
 unfold leastN
 rw [dif_pos h]
 exact Classical.choose_spec (jD h)
section
variable {V0 : World} {G : GraphD} {lim blk b : Nat} {V : World} {p : PlD} {o : Nat}
theorem TopOk.look (hG:RchG G lim blk) (h:TopOk p) {l:List (Int×Int)} (hl:bF G.ns.length l):TopOk (lookP (envG G lim blk) o p l):=by
 unfold lookP
 split
 ·exact TopOk.deep hG _ _ _ h hl
 ·exact h.all hG hl
abbrev AZ := @TopOk.look
theorem je (h:RP V0 G lim blk b p V) (hV:GraphAt V0 G) (hG:RchG G lim blk) (o:Nat) (l:List (Int×Int)) (A:Option Addr) (cap:Nat) (hl:SpansAt V0 A l) (hll:l.length≤8796093022208) (hv:bF G.ns.length l) (ho:PlOk (envG G lim blk) p) (ht:TopOk p):
  Calls Tryz.prog 196 #[.pointer (some ⟨b,0,none⟩),.slice A l.length cap,.bool (decide (o=1))] V fun e w'=>e= .returned (.tuple #[])∧RP V0 G lim blk b (lookP (envG G lim blk) o p l) w':=by
 unfold lookP
 by_cases h1:o=1
 ·rw [decide_eq_true h1,if_pos h1]
  exact sO hV hG _ p l A cap V h hl hll hv ho ht (by rw [aX];omega)
 ·rw [decide_eq_false h1,if_neg h1]
  exact sN p l A cap h hV hl hll hv ho ht hG
def RunI (V0:World) (G:GraphD) (lim blk b o:Nat) (R:PlD) (f:Nat) (w:World):Prop:=
 ∃p,RP V0 G lim blk b p w∧PlInv (envG G lim blk) G.rs p∧TopOk p∧eG (envG G lim blk) p < f∧runP (envG G lim blk) o f p=R
theorem RP.new (hlo:V0.heap.size≤b) (hx:Ext V0 V) (hb:V.heap[b]?=some (.cells #[.slice G.nA G.ns.length G.ncap,.slice G.rA G.rs.length G.rcap,.int .i64 lim,.int .i64 blk,.slice none 0 0,.slice none 0 0,.slice none 0 0,.slice none 0 0,.slice none 0 0,.int .i64 0] 206 (0,0))):RP V0 G lim blk b PlD.new V:=
 ⟨none,0,none,0,none,0,none,0,none,0,hb,AM _ _ _ _ _,AM _ _ _ _ _,AM _ _ _ _ _,AM _ _ _ _ _,AM _ _ _ _ _,(by
  intro i j x y g hi hj hij hx hy
  have:∀z∈ [Value.slice none 0 0,Value.slice none 0 0,Value.slice none 0 0,Value.slice none 0 0,Value.slice none 0 0],z.ownBlock=none:=by simp [Value.ownBlock]
  have:=this x (List.mem_of_getElem? hi)
  rw [this]at hx
  cases hx),hx,hlo⟩
theorem wz (hV:GraphAt V G) (hG:RchG G lim blk) (hoo:o≤2):
  Calls Tryz.prog 160 #[.agg #[.slice G.nA G.ns.length G.ncap,.slice G.rA G.rs.length G.rcap],.int .i64 lim,.int .i64 o,.int .i64 blk] V fun e w'=>∃V0 b,e= .returned (.pointer (some ⟨b,0,none⟩))∧Ext V V0∧RP V0 G lim blk b (planP (envG G lim blk) o G.rs) w':=by
 have hx0:=(AD V).alloc (.cells #[.slice G.nA G.ns.length G.ncap,.slice G.rA G.rs.length G.rcap] 27)
 have hBx:=aG V #[.slice G.nA G.ns.length G.ncap,.slice G.rA G.rs.length G.rcap] 27 _ rfl
 have HX:=zH hx0
 have HVG:=zH (hV.ext hx0)
 have HG:=zH hG
 have HNV:=zH (jB (o:=o) (roots:=G.rs) hG.env (by rw [aX];have:=hG.pg.roots;simpa using this))
 have HT:=zH (AZ (o:=o) (p:=PlD.new) hG ⟨by simp [PlD.new],by simp [PlD.new],by simp [PlD.new]⟩ (l:=G.rs) (by have:=hG.pg.roots;simpa using this))
 have HRL:Hid (G.rs.length≤8796093022208):=zH (by have:=hG.r;omega)
 have HVR:Hid (bF G.ns.length G.rs):=zH (by have:=hG.pg.roots;simpa using this)
 have d1:((o:Int)==1)=decide (o=1):=by
  by_cases h:o=1
  ·subst h;rfl
  ·rw [decide_eq_false h,beq_eq_false_iff_ne];omega
 clear hx0 hV hG
 have kB:=(aB hBx.here).1
 go_enter Tryz.func160,Tryz.ntmps160
 go_wp2_with fail
 generalize hW0:V.alloc (.cells #[.slice G.nA G.ns.length G.ncap,.slice G.rA G.rs.length G.rcap] 27)=W0 at*
 have hsz:W0.heap.size=V.heap.size+1:=by rw [←hW0];simp
 have hN:=RP.new (G:=G) (lim:=lim) (blk:=blk) (b:=V.heap.size+1) (V0:=W0) oM ((AD W0).alloc (.cells #[.slice G.nA G.ns.length G.ncap,.slice G.rA G.rs.length G.rcap,.int .i64 lim,.int .i64 blk,.slice none 0 0,.slice none 0 0,.slice none 0 0,.slice none 0 0,.slice none 0 0,.int .i64 0] 206)) (aR W0 _ _ _ hsz)
 have HBN:Hid (∀g,g < W0.heap.size→g≠V.heap.size+1):=zH (fun g hg=>by omega)
 have HVB:Hid (V.heap.size < W0.heap.size):=zH oM
 clear hW0 hsz
 generalize V.heap.size+1=b at*
 refine (je hN HVG.out HG.out o G.rs G.rA G.rcap HVG.out.roots HRL.out HVR.out PlOk.new ⟨by simp [PlD.new],by simp [PlD.new],by simp [PlD.new]⟩).mono ?_
 rintro e w1 ⟨rfl,hr⟩
 have HR:=zH hr
 clear hr hN kB
 go_wp2_with fail
 have HI:Hid (∃f,RunI W0 G lim blk b o (planP (envG G lim blk) o G.rs) f w1):=zH ⟨_,_,HR.out,HNV.out.1,HT.out,HNV.out.2,rfl⟩
 clear HR HNV HT
 generalize hPR:planP (envG G lim blk) o G.rs=R at*
 have HPR:=zH hPR
 clear hPR
 go_loopw [] (fun wr=>∃f,Hid (RunI W0 G lim blk b o R f wr)) (fun wr=>leastN (fun f=>RunI W0 G lim blk b o R f wr))
 case atStart=>obtain ⟨f,hf⟩:=HI.out;exact ⟨f,zH hf⟩
 case round=>
  obtain ⟨f0,hf0⟩:=hrel
  obtain ⟨hI,hmin⟩:=cH (P:=fun f=>RunI W0 G lim blk b o R f wr) ⟨f0,hf0.out⟩
  have HLS:Hid (∀(w':World) (g:Nat),RunI W0 G lim blk b o R g w'→g < leastN (fun f=>RunI W0 G lim blk b o R f wr)→leastN (fun f=>RunI W0 G lim blk b o R f w') < leastN (fun f=>RunI W0 G lim blk b o R f wr)):=zH (fun w' g hg hlt=>Nat.lt_of_le_of_lt ((cH (P:=fun f=>RunI W0 G lim blk b o R f w') ⟨g,hg⟩).2 g hg) hlt)
  generalize leastN (fun f=>RunI W0 G lim blk b o R f wr)=f at*
  obtain ⟨p,hp,hi,ht,hlf,hrun⟩:=hI
  obtain ⟨g,rfl⟩:∃g,f=g+1:=⟨f - 1,by omega⟩
  rw [runP]at hrun
  have HP:=zH hp
  have HPI:=zH hi
  have HPT:=zH ht
  have HLF:=zH hlf
  have HRUN:=zH hrun
  have HX1:=zH hp.ext
  clear hp hi ht hlf hrun hf0 hmin
  go_wp2_with fail
  refine (ul HP.out HPI.out.ok HPT.out HG.out o hoo).mono ?_
  rintro e w2 ⟨rfl,hx2⟩
  replace HP:=zH (HP.out.grow hx2)
  clear hx2
  cases hnx:cB (envG G lim blk) o p with
  | some i=>
   obtain ⟨hi1,hi2⟩:=gi hnx
   have hst:bp (envG G lim blk) o p=some (lookP (envG G lim blk) o (p.looked i) ((envG G lim blk).fs (p.small.getD i 0))):=by unfold bp;rw [hnx]
   have HRUN2:=HRUN.out
   rw [hst]at HRUN2
   simp only at HRUN2
   obtain ⟨hq1,hq2⟩:=gA HG.out.env HPI.out hst
   have hmem:p.small.getD i 0∈p.small:=aF hi1
   have hxl:p.small.getD i 0 < G.ns.length:=by
    have:=HPI.out.ok.lt _ (List.mem_append_left _ hmem)
    rwa [aX]at this
   have HFS:=zH (fT (lim:=lim) (blk:=blk) _ hxl)
   rw [HFS.out]at HRUN2 hq1 hq2
   have HNV2:Hid (bF G.ns.length (G.ns.getD (p.small.getD i 0) default).fields):=zH (by
    have:=HG.out.env _ (by rw [aX];exact hxl)
    rw [aX,HFS.out]at this
    exact this)
   have HQ1:=zH hq1
   have HQ2:=zH hq2
   have HR2:=zH HRUN2
   have HNF:=zH (HG.out.f _ (aF (d:=default) hxl))
   have HNA:=zH (HVG.out.nodes.each _ (aF (d:=default) hxl))
   have HPT2:Hid (TopOk (p.looked i)):=zH HPT.out
   have HOK2:=zH (HPI.out.ok.lookd i)
   have HQT:=zH (AZ (o:=o) HG.out HPT2.out HNV2.out)
   have HLE:Hid (eG (envG G lim blk) (lookP (envG G lim blk) o (p.looked i) (G.ns.getD (p.small.getD i 0) default).fields) < g):=zH (by have:=HLF.out;omega)
   obtain ⟨nb,noff,hA,hcn⟩:=HVG.out.nodes.row.get oM
   obtain ⟨d0,d1',d2⟩:=ah hcn hxl
   obtain ⟨sA,sc,bA,bc,kA,kc,lA,lc,pA,pc,hq⟩:=HP.out
   have hll:=HPI.out.ok.ll
   obtain ⟨kg,rfl,_,_⟩:=bR hq.ok (fun e=>by rw [e]at hll;simp at hll;omega)
   obtain ⟨sg, rfl, _, _⟩ := bR hq.os (fun e => by have e2 : p.small.length = 0 := by rw [← aN, e]; rfl
                                                   omega)
   have k2:=(aB hq.blk).1
   obtain ⟨kcur,hkc⟩:=ci hq.ok
   have fk:=(aB hkc).2
   have ck:=cd hq.ok rfl (k:=i) oM
   have jb0:(i:Int) < (p.lk.length:Int):=by omega
   have jb1:(0:Int)≤(i:Int):=by omega
   have hq3:=hq.look rfl i
   have HQ3:=zH hq3
   have cs:=eP hq3.os aN (k:=i) hi1
   rw [show (p.looked i).small=p.small from rfl,dY (o:=p.small) (i:=i) hi1]at cs
   have CS:=zH cs
   have js0:(i:Int) < (p.small.length:Int):=by omega
   have D1:=zH d1'
   have jx0:(0:Int)≤((p.small.getD i 0:Nat):Int):=by omega
   have jx1:((p.small.getD i 0:Nat):Int) < (G.ns.length:Int):=by omega
   have HAA:=zH hA
   have D0:=zH d0
   have D2:=zH d2
   clear hA hi1 hi2 hst HRUN2 hq1 hq2 hmem hxl hcn d0 d1' d2 hq hll hkc hq3 cs HRUN HPI HPT HLF HP hnx
   generalize p.small.getD i 0=x at*
   generalize G.ns.getD x default=y at*
   simp only [optZ]
   go_wp2_with fail
   generalize w2.setCell ⟨kg,i,none⟩ (.bool true)=W3 at*
   have hx3:=HQ3.out.ext
   have HRP:Hid (RP W0 G lim blk b (p.looked i) W3):=zH ⟨_,_,_,_,_,_,_,_,_,_,HQ3.out⟩
   have l1:=(aP HQ3.out.blk).cells
   simp only [PlD.looked]at l1
   have l2:=aJ CS.out
   have l3:=aJ (hx3.cell D1.out)
   have l4:=(hBx.re hx3).cells
   simp only [HAA.out]at l4
   have l5:=aJ (hx3.cell D0.out)
   have l6:=aJ (hx3.cell D2.out)
   have hs0:Ext W3 W3:=AD _
   clear k2 fk ck jb0 HQ3
   (refine cc (W:=W3) 15 kR kR aS ?_;simp only [List.take_succ_cons,List.take_zero,List.drop_succ_cons,List.drop_zero];(repeat (go_big_quiet_step (fail)));refine wpQuiet_nil ?_;intro w1 hx)
   replace HRP:=zH (HRP.out.grow hx)
   clear hx hs0 l1 l2 l3 l4 l5 l6 CS
   go_wp2_with fail
   refine (je HRP.out HVG.out HG.out o y.fields y.fA y.fcap HNA.out.fields (by have:=HNF.out;omega) HNV2.out HOK2.out HPT2.out).mono ?_
   rintro e w5 ⟨rfl,hr⟩
   have HRI:Hid (RunI W0 G lim blk b o R g w5):=zH ⟨_,hr,HQ1.out,HQT.out,HLE.out,HR2.out⟩
   have HLN:=zH (HLS.out w5 g HRI.out oM)
   clear hr HRP
   go_wp2_with fail
   go_roundw
   case rel=>exact ⟨g,HRI⟩
   case measure=>exact HLN.out
  | none=>
   simp only [optZ]
   obtain ⟨sA,sc,bA,bc,kA,kc,lA,lc,pA,pc,hq⟩:=HP.out
   have k2:=(aB hq.blk).1
   cases hpl:p.pile.getLast? with
   | none=>
    have hst:bp (envG G lim blk) o p=none:=by unfold bp;rw [hnx,hpl]
    have HRUN2:=HRUN.out
    rw [hst]at HRUN2
    simp only at HRUN2
    have HRE:=zH HRUN2
    have h0:p.pile.length=0:=by rw [List.getLast?_eq_none_iff.1 hpl];rfl
    rw [h0]at k2
    clear HRUN2 hst h0 hpl hnx hq HRUN
    go_wp2_with fail
    go_ret
    refine ⟨W0,b,rfl,HX.out,?_⟩
    rw [HPR.out,←HRE.out]
    exact HP.out
   | some x=>
    have hpe:=dX hpl
    have hst:bp (envG G lim blk) o p=some (lookP (envG G lim blk) o p.popped ((envG G lim blk).fs x)):=by unfold bp;rw [hnx,hpl]
    have HRUN2:=HRUN.out
    rw [hst]at HRUN2
    simp only at HRUN2
    obtain ⟨hq1,hq2⟩:=gA HG.out.env HPI.out hst
    have hmem:x∈p.large:=HPI.out.ok.pl x (by rw [hpe];simp)
    have hxl:x < G.ns.length:=by
     have:=HPI.out.ok.lt _ (List.mem_append_right _ hmem)
     rwa [aX]at this
    have HFS:=zH (fT (lim:=lim) (blk:=blk) _ hxl)
    rw [HFS.out]at HRUN2 hq1 hq2
    have HNV2:Hid (bF G.ns.length (G.ns.getD x default).fields):=zH (by
     have:=HG.out.env _ (by rw [aX];exact hxl)
     rw [aX,HFS.out]at this
     exact this)
    have HQ1:=zH hq1
    have HR2:=zH HRUN2
    have HNF:=zH (HG.out.f _ (aF (d:=default) hxl))
    have HNA:=zH (HVG.out.nodes.each _ (aF (d:=default) hxl))
    have HPT2:Hid (TopOk p.popped):=zH ⟨HPT.out.1,by have:=HPT.out.2.1;simp only [PlD.popped,List.length_dropLast];omega,HPT.out.2.2⟩
    have HOK2:=zH HPI.out.ok.popd
    have HQT:=zH (AZ (o:=o) HG.out HPT2.out HNV2.out)
    have HLE:Hid (eG (envG G lim blk) (lookP (envG G lim blk) o p.popped (G.ns.getD x default).fields) < g):=zH (by have:=HLF.out;omega)
    obtain ⟨nb,noff,hA,hcn⟩:=HVG.out.nodes.row.get oM
    obtain ⟨d0,d1',d2⟩:=ah hcn hxl
    have hpn:p.pile.length=p.pile.dropLast.length+1:=by rw [hpe];simp
    obtain ⟨m,hm⟩:∃m,p.pile.dropLast.length=m:=⟨_,rfl⟩
    rw [hm]at hpn
    have hmet:=HPI.out.ok.met_le
    have hn:=HG.out.n
    rw [aX]at hmet
    unfold PlD.met at hmet
    have hplm:m≤1000:=by have:=HPT.out.2.1;omega
    obtain ⟨pg, rfl, _, _⟩ := bR hq.op (fun e => by have e2 : p.pile.length = 0 := by rw [← aN, e]; rfl
                                                    omega)
    have cp:=eP hq.op aN (k:=m) oM
    rw [dY (o:=p.pile) (i:=m) oM,show p.pile.getD m 0=x by rw [hpe,←hm];simp]at cp
    obtain ⟨hcap,hcm⟩:=xq hq.op aN
    have hot:=kn hq.op aO aN m oM
    rw [show (ordZ p.pile).take m=ordZ p.pile.dropLast by rw [←hm,List.dropLast_eq_take];simp [ordZ,List.map_take]]at hot
    have HQ3:=zH (hq.turn_p hm hot (World.grownBy.refl _ _) (.inl rfl))
    rw [hpn]at k2 hcap
    have jw:wrap64 (((m+1:Nat):Int) - 1)=(m:Int):=by unfold wrap64;omega
    have jb0:(0:Int)≤(m:Int):=by omega
    have jb1:(m:Int) < ((m+1:Nat):Int):=by omega
    have jb2:(m:Int)≤(pc:Int):=by omega
    have fb:=(aB hq.blk).2
    have hx2:=hq.ext
    have m4:=(aB (hBx.re hx2).here).1
    have m5:=hx2.cell d1'
    have m6:=HBN.out _ HVB.out
    have m7:=HBN.out _ (kF d1')
    have jx0:(0:Int)≤(x:Int):=by omega
    have jx1:(x:Int) < (G.ns.length:Int):=by omega
    rw [hA]at m4
    clear hx2
    clear hA hpe hst HRUN2 hq1 hq2 hmem hxl hcn d0 d1' d2 hot hn hmet hq HRUN HPI HPT HLF HP hnx hpl hm hpn
    generalize G.ns.getD x default=y at*
    go_wp2_with fail
    generalize w2.setCell ⟨b,8,none⟩ (.slice (some ⟨pg,0,none⟩) m pc)=W3 at*
    have hx3:=HQ3.out.ext
    have HRP:Hid (RP W0 G lim blk b p.popped W3):=zH ⟨_,_,_,_,_,_,_,_,_,_,HQ3.out⟩
    clear k2 fb cp jb0 jb1 jb2 jw hcap hcm HQ3 m4 m5 m6 m7 hx3
    refine (je HRP.out HVG.out HG.out o y.fields y.fA y.fcap HNA.out.fields (by have:=HNF.out;omega) HNV2.out HOK2.out HPT2.out).mono ?_
    rintro e w5 ⟨rfl,hr⟩
    have HRI:Hid (RunI W0 G lim blk b o R g w5):=zH ⟨_,hr,HQ1.out,HQT.out,HLE.out,HR2.out⟩
    have HLN:=zH (HLS.out w5 g HRI.out oM)
    clear hr HRP
    go_wp2_with fail
    go_roundw
    case rel=>exact ⟨g,HRI⟩
    case measure=>exact HLN.out
end
def argB (lim ord blk:Int):Bool:=decide (lim < 1) || decide (blk < 1) || decide (ord < 0) || decide (2 < ord)
def ap (G:GraphD) (lim ord blk:Int):Int:=if aV G then (if argB lim ord blk then 1 else 0)else 4
def planD (G:GraphD) (lim ord blk:Int):PlD:=planP (envG G lim.toNat blk.toNat) ord.toNat G.rs
def planS (G:GraphD) (lim ord blk:Int):List Int:=if ap G lim ord blk=0 then ordZ (planD G lim ord blk).small else []
def planL (G:GraphD) (lim ord blk:Int):List Int:=if ap G lim ord blk=0 then ordZ (planD G lim ord blk).large else []
def MidG (G:GraphD):Prop:=G.ns.length≤1000∧G.rs.length≤1000
theorem RchG.of {G:GraphD} {lim blk:Int} (oG:GraphOk G) (hl:MidG G) (hR:aV G=true) (h1:1≤lim∧lim≤9223372036854775807) (h2:1≤blk∧blk≤9223372036854775807):RchG G lim.toNat blk.toNat:=by
 obtain ⟨hl1,hl2⟩:=hl
 obtain ⟨r1,r2⟩:=jp hR
 refine ⟨oG,by omega,by omega,fun x hx=> ?_,⟨fun x hx=> ?_,fun v hv e=> ?_⟩,by omega,by omega⟩
 ·have:=(r1 x hx).1
  simp [okN]at this
  omega
 ·obtain ⟨y,hy,rfl⟩:=List.mem_map.1 hx
  intro v hv e
  have:=qe ((r1 y hy).2 v hv) e
  simpa using this
 ·have:=qe (r2 v hv) e
  simpa using this
def qg (V:World) (S L:List Int) (c:Int) (e:Ending) (w':World):Prop:=
 ∃A1 c1 A2 c2,e= .returned (.tuple #[.slice A1 S.length c1,.slice A2 L.length c2,.int .i64 c])∧Own 3 1 intC w' V.heap.size (.slice A1 S.length c1) S∧Own 3 1 intC w' V.heap.size (.slice A2 L.length c2) L∧
  ((Value.slice A1 S.length c1).ownBlock=none∨(Value.slice A1 S.length c1).ownBlock≠(Value.slice A2 L.length c2).ownBlock)∧Ext V w'
def GOk (G:GraphD):Prop:=GraphOk G∧MidG G
theorem GOk.bd {G:GraphD} (h:GOk G):G.ns.length≤9223372036854775807∧G.rs.length≤9223372036854775807∧∀x∈G.ns,x.fields.length≤9223372036854775807:=by
 refine ⟨by have:=h.1.nl;omega,by have:=h.1.rl;omega,fun x hx=>by have:=(h.1.each x hx).fl;omega⟩
theorem jE (G:GraphD) (b:Bool) (hb:aV G=b) (V:World) (hG:GraphAt V G) (oG:GOk G):Calls Tryz.prog 47 #[.agg #[.slice G.nA G.ns.length G.ncap,.slice G.rA G.rs.length G.rcap]] V fun e w'=>e= .returned (.bool b)∧Ext V w':=by
 subst hb
 exact mV G V hG oG.bd.1 oG.bd.2.1 oG.bd.2.2
theorem kQ {lim ord blk:Int} (h:argB lim ord blk=false):1≤lim∧1≤blk∧0≤ord∧ord≤2:=by
 simp [argB]at h
 omega
theorem qh {lim ord blk:Int} (h:argB lim ord blk=true):lim < 1∨(1≤lim∧blk < 1)∨(1≤lim∧1≤blk∧ord < 0)∨(1≤lim∧1≤blk∧0≤ord∧2 < ord):=by
 simp [argB]at h
 omega
theorem gk {V w:World} {S L:List Int} {c:Int} (hS:S= []) (hL:L= []) (hx:Ext V w):qg V S L c (.returned (.tuple #[.slice none 0 0,.slice none 0 0,.int .i64 c])) w:=by
 subst hS hL
 exact ⟨none,0,none,0,rfl,AM _ _ _ _ _,AM _ _ _ _ _,.inl rfl,hx⟩
theorem qi (G:GraphD) (lim ord blk:Int) (V:World) (hG:GraphAt V G) (oG:GOk G) (hl: -9223372036854775808≤lim∧lim≤9223372036854775807) (hb: -9223372036854775808≤blk∧blk≤9223372036854775807):
  Calls Tryz.prog 127 #[.agg #[.slice G.nA G.ns.length G.ncap,.slice G.rA G.rs.length G.rcap],.int .i64 lim,.int .i64 ord,.int .i64 blk] V (qg V (planS G lim ord blk) (planL G lim ord blk) (ap G lim ord blk)):=by
 have hx0:=(AD V).alloc (.cells #[.slice G.nA G.ns.length G.ncap,.slice G.rA G.rs.length G.rcap] 27)
 have hBx:=aG V #[.slice G.nA G.ns.length G.ncap,.slice G.rA G.rs.length G.rcap] 27 _ rfl
 have HX:=zH hx0
 have HVG:=zH (hG.ext hx0)
 have kB:=(aB hBx.here).1
 cases hR:aV G with
 | false=>
  have HRI:=zH (fun W hW=>jE G false hR W hW oG)
  have he:ap G lim ord blk=4:=by simp [ap,hR]
  have HS:Hid (planS G lim ord blk= []):=zH (by rw [planS,he];rfl)
  have HL:Hid (planL G lim ord blk= []):=zH (by rw [planL,he];rfl)
  have HE:=zH he
  clear hx0 hG hR oG he
  go_enter Tryz.func127,Tryz.ntmps127
  go_wp2_with fail
  refine (HRI.out _ HVG.out).mono ?_
  rintro e w1 ⟨rfl,hx⟩
  replace HX:=zH (HX.out.trans hx)
  clear hx kB
  go_wp2_with fail
  ((try simp only [Exit.inBlock,Exit.then]);refine bodyPost_ret (v:= .tuple #[.slice none 0 0,.slice none 0 0,.int .i64 4]) (by simp only [results,Tryz.results127];go_simp) rfl ?_)
  rw [HE.out]
  exact gk HS.out HL.out HX.out
 | true=>
 have HRI:=zH (fun W hW=>jE G true hR W hW oG)
 cases hA:argB lim ord blk with
 | true=>
  have he:ap G lim ord blk=1:=by simp [ap,hR,hA]
  have HS:Hid (planS G lim ord blk= []):=zH (by rw [planS,he];rfl)
  have HL:Hid (planL G lim ord blk= []):=zH (by rw [planL,he];rfl)
  have HE:=zH he
  have c1:∀x y:Int,x < y→decide (x < y)=true:=fun x y h=>by simpa using h
  have c0:∀x y:Int,y≤x→decide (x < y)=false:=fun x y h=>by simpa using h
  have hc:(decide (lim < 1)=true)∨(decide (lim < 1)=false∧decide (blk < 1)=true)∨(decide (lim < 1)=false∧decide (blk < 1)=false∧decide (ord < 0)=true)∨(decide (lim < 1)=false∧decide (blk < 1)=false∧decide (ord < 0)=false∧decide (2 < ord)=true):=by
   rcases qh hA with h | ⟨h1,h⟩ | ⟨h1,h2,h⟩ | ⟨h1,h2,h3,h⟩
   ·exact .inl (c1 _ _ h)
   ·exact .inr (.inl ⟨c0 _ _ h1,c1 _ _ h⟩)
   ·exact .inr (.inr (.inl ⟨c0 _ _ h1,c0 _ _ h2,c1 _ _ h⟩))
   ·exact .inr (.inr (.inr ⟨c0 _ _ h1,c0 _ _ h2,c0 _ _ h3,c1 _ _ h⟩))
  clear hx0 hG hR oG he hA c0 c1
  rcases hc with h | ⟨h1,h⟩ | ⟨h1,h2,h⟩ | ⟨h1,h2,h3,h⟩
  all_goals
   go_enter Tryz.func127,Tryz.ntmps127
   go_wp2_with fail
   refine (HRI.out _ HVG.out).mono ?_
   rintro e w1 ⟨rfl,hx⟩
   replace HX:=zH (HX.out.trans hx)
   clear hx kB
   go_wp2_with fail
   ((try simp only [Exit.inBlock,Exit.then]);refine bodyPost_ret (v:= .tuple #[.slice none 0 0,.slice none 0 0,.int .i64 1]) (by simp only [results,Tryz.results127];go_simp) rfl ?_)
   rw [HE.out]
   exact gk HS.out HL.out HX.out
 | false=>
  have he:ap G lim ord blk=0:=by simp [ap,hR,hA]
  obtain ⟨a1,a2,a3,a4⟩:=kQ hA
  have hRG:=RchG.of oG.1 oG.2 hR ⟨a1,hl.2⟩ ⟨a2,hb.2⟩
  have HRUN:=zH (fun W (hW:GraphAt W G)=>wz (o:=ord.toNat) hW hRG oM)
  simp only [Int.toNat_of_nonneg a3,Int.toNat_of_nonneg (Int.le_trans dM a1),Int.toNat_of_nonneg (Int.le_trans dM a2)]at HRUN
  have HS:Hid (planS G lim ord blk=ordZ (planD G lim ord blk).small):=zH (by rw [planS,if_pos he])
  have HL:Hid (planL G lim ord blk=ordZ (planD G lim ord blk).large):=zH (by rw [planL,if_pos he])
  have HE:=zH he
  have d1:decide (lim < 1)=false:=by simpa using a1
  have d2:decide (blk < 1)=false:=by simpa using a2
  have d3:decide (ord < 0)=false:=by simpa using a3
  have d4:decide (2 < ord)=false:=by simpa using a4
  clear hx0 hG hR oG he hA hRG a1 a2 a3 a4
  change Hid (∀(W:World),GraphAt W G→Calls Tryz.prog 160 #[.agg #[.slice G.nA G.ns.length G.ncap,.slice G.rA G.rs.length G.rcap],.int .i64 lim,.int .i64 ord,.int .i64 blk] W fun e w'=>∃V0 b,e= .returned (.pointer (some ⟨b,0,none⟩))∧Ext W V0∧RP V0 G lim.toNat blk.toNat b (planD G lim ord blk) w')at HRUN
  generalize planD G lim ord blk=p at*
  go_enter Tryz.func127,Tryz.ntmps127
  go_wp2_with fail
  refine (HRI.out _ HVG.out).mono ?_
  rintro e w1 ⟨rfl,hx⟩
  replace HX:=zH (HX.out.trans hx)
  replace HVG:=zH (HVG.out.ext hx)
  have kB2:=(aB (hBx.re hx).here).1
  clear hx kB
  go_wp2_with fail
  refine (HRUN.out _ HVG.out).mono ?_
  rintro e w2 ⟨V0,b,rfl,hxv,sA,sc,bA,bc,kA,kc,lA,lc,pA,pc,hq⟩
  have HQ:=zH hq
  have HXV:=zH (HX.out.trans hxv)
  have hs0:Ext w2 w2:=AD _
  have l1:=(aP hq.blk).cells
  clear hxv kB2 hq
  go_wp2_with fail
  (refine aC (W:=w2) kR kR aS ?_;(repeat (go_big_quiet_step (fail)));refine wpQuiet_nil ?_;intro w1 hx)
  go_wp2_with fail
  ((try simp only [Exit.inBlock,Exit.then]);refine bodyPost_ret (v:= .tuple #[.slice sA p.small.length sc,.slice lA p.large.length lc,.int .i64 0]) (by simp only [results,Tryz.results127];go_simp) rfl ?_)
  have hq:=HQ.out.grow hx
  rw [HE.out,HS.out,HL.out]
  refine ⟨sA,sc,lA,lc,by rw [aN,aN],?_,?_,?_,HXV.out.trans hq.ext⟩
  ·rw [aN];exact hq.os.mono HXV.out.size
  ·rw [aN];exact hq.ol.mono HXV.out.size
  ·rw [aN,aN];exact hq.sep.ne 0 3 rfl rfl dM
def LimEq (E F:PlE):Prop:=F.n=E.n∧F.sz=E.sz∧F.fs=E.fs∧F.blk=E.blk∧∀i,(E.lim < E.sz i)↔(F.lim < E.sz i)
section
variable {E F : PlE}
theorem LimEq.meet (h:LimEq E F) (mk:Bool) (p:PlD) (v:Int×Int):meetP F mk p v=meetP E mk p v:=by
 obtain ⟨h1,h2,h3,h4,h5⟩:=h
 unfold meetP
 rw [h2]
 split
 ·by_cases hl:E.lim < E.sz v.2.toNat
  ·rw [if_pos hl,if_pos ((h5 _).1 hl)]
  ·rw [if_neg hl,if_neg fun c=>hl ((h5 _).2 c)]
 ·rfl
theorem LimEq.new (h:LimEq E F) (p:PlD) (v:Int×Int):newP F p v=newP E p v:=by
 obtain ⟨h1,h2,h3,h4,h5⟩:=h
 unfold newP
 rw [h2]
 congr 1
 have:=h5 v.2.toNat
 exact decide_eq_decide.2 oM
theorem LimEq.all (h:LimEq E F) (mk:Bool) (p:PlD) (l:List (Int×Int)):allP F mk p l=allP E mk p l:=by
 unfold allP
 rw [show meetP F mk=meetP E mk from funext fun q=>funext fun v=>h.meet mk q v]
theorem LimEq.deep (h:LimEq E F) (mk:Bool):∀(f:Nat) (p:PlD) (l:List (Int×Int)),deepP F mk f p l=deepP E mk f p l:=by
 intro f
 induction f with
 | zero=>intro p l;rfl
 | succ f ih=>
  intro p l
  rw [bu,bu]
  rw [show oneP F mk f=oneP E mk f from funext fun q=>funext fun v=>by
   unfold oneP
   rw [h.new,h.meet,h.2.2.1,ih]]
theorem LimEq.look (h:LimEq E F) (o:Nat) (p:PlD) (l:List (Int×Int)):lookP F o p l=lookP E o p l:=by
 unfold lookP
 rw [h.1,h.deep,h.all]
theorem LimEq.step (h:LimEq E F) (o:Nat) (p:PlD):bp F o p=bp E o p:=by
 unfold bp
 rw [show cB F o p=cB E o p from by unfold cB;rw [h.2.2.2.1]]
 simp only [h.look,h.2.2.1]
theorem LimEq.run (h:LimEq E F) (o:Nat):∀(f:Nat) (p:PlD),runP F o f p=runP E o f p:=by
 intro f
 induction f with
 | zero=>intro p;rfl
 | succ f ih=>
  intro p
  unfold runP
  rw [h.step]
  cases bp E o p with
  | none=>rfl
  | some q=>exact ih q
theorem LimEq.plan (h:LimEq E F) (o:Nat) (rs:List (Int×Int)):planP F o rs=planP E o rs:=by
 unfold planP
 rw [h.look,h.1,h.run]
theorem ly {mk:Bool} {p:PlD} {v:Int×Int} (hs:∀i,E.sz i≤E.lim) (h:p.large= []):(meetP E mk p v).large= []:=by
 unfold meetP
 split
 ·rw [if_neg (by have:=hs v.2.toNat;omega)]
  exact h
 ·exact h
theorem yY {mk:Bool} (hs:∀i,E.sz i≤E.lim) (p:PlD) (l:List (Int×Int)) (h:p.large= []):(allP E mk p l).large= []:=
 ep (I:=fun q:PlD=>q.large= []) l p (fun v _ q hq=>ly hs hq) h
theorem xB {mk:Bool} (hs:∀i,E.sz i≤E.lim):∀(f:Nat) (p:PlD) (l:List (Int×Int)),p.large= []→(deepP E mk f p l).large= []:=by
 intro f
 induction f with
 | zero=>exact fun p l h=>h
 | succ f ih=>
  intro p l h
  rw [bu]
  refine ep (I:=fun q:PlD=>q.large= []) l p (fun v _ q hq=> ?_) h
  unfold oneP
  split
  ·exact ih _ _ (ly hs hq)
  ·exact ly hs hq
theorem lz (hs:∀i,E.sz i≤E.lim) (o:Nat) (p:PlD) (l:List (Int×Int)) (h:p.large= []):(lookP E o p l).large= []:=by
 unfold lookP
 split
 ·exact xB hs _ _ _ h
 ·exact yY hs _ _ h
theorem xC (hs:∀i,E.sz i≤E.lim) (o:Nat) (p q:PlD) (h:p.large= []) (hq:bp E o p=some q):q.large= []:=by
 unfold bp at hq
 split at hq
 ·injection hq with hq
  rw [←hq]
  exact lz hs _ _ _ h
 ·split at hq
  ·cases hq
  ·injection hq with hq
   rw [←hq]
   exact lz hs _ _ _ h
theorem yZ (hs:∀i,E.sz i≤E.lim) (o:Nat):∀(f:Nat) (p:PlD),p.large= []→(runP E o f p).large= []:=by
 intro f
 induction f with
 | zero=>exact fun p h=>h
 | succ f ih=>
  intro p h
  unfold runP
  cases hst:bp E o p with
  | none=>exact h
  | some q=>exact ih q (xC hs o p q h hst)
theorem xD (hs:∀i,E.sz i≤E.lim) (o:Nat) (rs:List (Int×Int)):(planP E o rs).large= []:=
 yZ hs o _ _ (lz hs o _ _ rfl)
end
theorem qj:∀(a b:List Int),a.Pairwise (· < ·)→b.Pairwise (· < ·)→(∀x,x∈a↔x∈b)→a=b
 | [],[],_,_,_=>rfl
 | [],y::b,_,_,h=>absurd ((h y).2 (List.mem_cons_self ..)) sM
 | x::a,[],_,_,h=>absurd ((h x).1 (List.mem_cons_self ..)) sM
 | x::a,y::b,ha,hb,h=>by
  obtain ⟨ha1,ha2⟩:=List.pairwise_cons.1 ha
  obtain ⟨hb1,hb2⟩:=List.pairwise_cons.1 hb
  have hxy:x=y:=by
   rcases List.mem_cons.1 ((h x).1 (List.mem_cons_self ..))with e | h1
   ·exact e
   ·rcases List.mem_cons.1 ((h y).2 (List.mem_cons_self ..))with e | h2
    ·exact e.symm
    ·have:=ha1 _ h2
     have:=hb1 _ h1
     omega
  subst hxy
  rw [qj a b ha2 hb2 fun z=> ?_]
  have hz:=h z
  simp only [List.mem_cons]at hz
  constructor
  ·intro hza
   have:=ha1 _ hza
   rcases hz.1 (.inr hza)with e | h1
   ·omega
   ·exact h1
  ·intro hzb
   have:=hb1 _ hzb
   rcases hz.2 (.inr hzb)with e | h1
   ·omega
   ·exact h1
theorem um {l:List Int} {x:Int}:x∈fG l↔x∈l:=List.mem_mergeSort
theorem sQ {l:List Int} (h:l.Nodup):(fG l).Pairwise (· < ·):=by
 have h1:(fG l).Pairwise fun x y=>decide (x≤y)=true:=List.pairwise_mergeSort (fun a b c h1 h2=>by simp at*;omega) (fun a b=>by simp;omega) l
 have h2:(fG l).Nodup:=(List.mergeSort_perm l _).nodup_iff.2 h
 refine (h1.and h2).imp fun ⟨h3,h4⟩=> ?_
 simp at h3
 omega
theorem sR {l:List Nat} (h:l.Nodup):(ordZ l).Nodup:=by
 unfold ordZ
 exact List.Pairwise.map _ (fun a b hab=>by omega) h
theorem iI {l:List Nat} {x:Int}:x∈ordZ l↔∃i,i∈l∧(i:Int)=x:=by simp [ordZ]
theorem un (n:Nat) (S:List Int):(ordZ (cx n S)).Pairwise (· < ·):=by
 unfold ordZ cx
 refine List.Pairwise.map _ (fun a b hab=> ?_) (List.Pairwise.filter _ List.pairwise_lt_range)
 omega
theorem xE {n:Nat} {S:List Int} {x:Int}:x∈ordZ (cx n S)↔0≤x∧x < n∧x∈S:=by
 rw [iI]
 unfold cx
 constructor
 ·rintro ⟨i,hi,rfl⟩
  obtain ⟨h1,h2⟩:=List.mem_filter.1 hi
  exact ⟨by omega,by have:=List.mem_range.1 h1;omega,of_decide_eq_true h2⟩
 ·rintro ⟨h1,h2,h3⟩
  refine ⟨x.toNat,?_,by omega⟩
  simp
  rw [show max x 0=x by omega]
  exact ⟨by omega,h3⟩
theorem uo {n:Nat} {S T:List Int} (h1:S.Nodup) (h2:∀x∈S,0≤x∧x < n) (h3:∀x,x∈S↔x∈T):fG S=ordZ (cx n T):=by
 refine qj _ _ (sQ h1) (un n T) fun x=> ?_
 rw [um,xE]
 exact ⟨fun h=>⟨(h2 x h).1,(h2 x h).2,(h3 x).1 h⟩,fun h=>(h3 x).2 h.2.2⟩
structure MetG (G:GraphD) (S L:List Int):Prop where
 nd:(S++L).Nodup
 mem:∀x,x∈S++L↔∃i:Nat,Rch (envG G 1 1) G.rs i∧(i:Int)=x
 lt:∀x∈S++L,0≤x∧x < G.ns.length
theorem Rch.env {E F:PlE} {rs:List (Int×Int)} {i:Nat} (hi:Rch E rs i) (h:F.fs=E.fs):Rch F rs i:=by
 induction hi with
 | root h1=>exact .root h1
 | step _ h2 ih=>exact .step ih (by rw [h];exact h2)
theorem metG {G:GraphD} (oG:GOk G) {lim ord blk:Int} (hl:lim≤9223372036854775807) (hb:blk≤9223372036854775807) (he:ap G lim ord blk=0):MetG G (planS G lim ord blk) (planL G lim ord blk):=by
 unfold planS planL
 rw [if_pos he,if_pos he]
 unfold ap at he
 cases hR:aV G with
 | false=>rw [hR]at he;exact absurd he sM
 | true=>
  rw [hR,if_pos rfl]at he
  cases hA:argB lim ord blk with
  | true=>rw [hA]at he;exact absurd he dM
  | false=>
   obtain ⟨a1,a2,a3,a4⟩:=kQ hA
   have hRG:=RchG.of oG.1 oG.2 hR ⟨a1,hl⟩ ⟨a2,hb⟩
   obtain ⟨h1,h2⟩:=l8 hRG.env ord.toNat (roots:=G.rs) (by rw [aX];have:=hRG.pg.roots;simpa using this)
   have e:ordZ (planD G lim ord blk).small++ordZ (planD G lim ord blk).large=ordZ ((planD G lim ord blk).small++(planD G lim ord blk).large):=by simp [ordZ]
   refine ⟨?_,?_,?_⟩
   ·rw [e];exact sR h1.nd
   ·intro x
    rw [e,iI]
    constructor
    ·rintro ⟨i,hi,rfl⟩
     exact ⟨i,((h2 i).1 hi).env (F:=envG G 1 1) rfl,rfl⟩
    ·rintro ⟨i,hi,rfl⟩
     exact ⟨i,(h2 i).2 (hi.env (F:=envG G lim.toNat blk.toNat) rfl),rfl⟩
   ·intro x hx
    rw [e,iI]at hx
    obtain ⟨i,hi,rfl⟩:=hx
    have:=h1.lt i hi
    rw [aX]at this
    omega
theorem mB {G:GraphD} {lim blk:Nat} (h:RchG G lim blk) (i:Nat):(envG G lim blk).sz i≤9000:=by
 by_cases hi:i < G.ns.length
 ·exact (h.sz i hi).1
 ·have : (G.ns.map aY).getD i (0, [], []) = (0, [], []) := by
   rw [List.getD_eq_getElem?_getD,List.getElem?_eq_none (by simp;omega)];rfl
  simp only [envG,envP,this]
  simp
theorem iq {G:GraphD} (oG:GOk G) (ord:Int):ap G 1048576 ord 1=ap G 1000000 ord 1∧planS G 1048576 ord 1=planS G 1000000 ord 1∧planL G 1048576 ord 1= []:=by
 have e1:ap G 1048576 ord 1=ap G 1000000 ord 1:=by unfold ap argB;rfl
 refine ⟨e1,?_⟩
 by_cases he:ap G 1000000 ord 1=0
 ·have he2:=e1.trans he
  unfold planS planL
  rw [if_pos he,if_pos he2,if_pos he2]
  unfold ap at he
  cases hR:aV G with
  | false=>rw [hR]at he;exact absurd he sM
  | true=>
   rw [hR,if_pos rfl]at he
   have hRG:=RchG.of oG.1 oG.2 hR (lim:=1048576) (blk:=1) ⟨by decide,by decide⟩ ⟨by decide,by decide⟩
   have hs:=mB hRG
   have hL:LimEq (envG G (1000000:Int).toNat (1:Int).toNat) (envG G (1048576:Int).toNat (1:Int).toNat):=⟨rfl,rfl,rfl,rfl,fun i=>by
    have:=hs i
    have e:(envG G (1000000:Int).toNat (1:Int).toNat).sz i=(envG G (1048576:Int).toNat (1:Int).toNat).sz i:=rfl
    rw [e]
    have e2:(envG G (1000000:Int).toNat (1:Int).toNat).lim=1000000:=rfl
    have e3:(envG G (1048576:Int).toNat (1:Int).toNat).lim=1048576:=rfl
    rw [e2,e3]
    omega⟩
   have e:planD G 1048576 ord 1=planD G 1000000 ord 1:=hL.plan ord.toNat G.rs
   have e4:(planD G 1048576 ord 1).large= []:=xD (fun i=>by
    have:=hs i
    have e3:(envG G (1048576:Int).toNat (1:Int).toNat).lim=1048576:=rfl
    rw [e3]
    omega) ord.toNat G.rs
   exact ⟨by rw [e],by rw [e4];rfl⟩
 ·have he2:=fun c=>he (e1.symm.trans c)
  unfold planS planL
  rw [if_neg he,if_neg he2,if_neg he2]
  exact ⟨rfl,rfl⟩
theorem nS {G:GraphD} {lim o blk lim2 o2 blk2:Int} (h:ap G lim o blk=0) (h2:argB lim2 o2 blk2=false):ap G lim2 o2 blk2=0:=by
 unfold ap at*
 split at h
 ·rename_i hr
  rw [if_pos hr,h2];rfl
 ·exact absurd h dM
theorem sS {G:GraphD} (oG:GOk G):fG (planS G 1048576 1 1)=ordZ (cx G.ns.length (planS G 1000000 0 1)):=by
 by_cases he:ap G 1048576 1 1=0
 ·have he2:ap G 1048576 0 1=0:=nS he dM
  have h1:=metG oG (lim:=1048576) (ord:=1) (blk:=1) dM dM he
  have h2:=metG oG (lim:=1048576) (ord:=0) (blk:=1) dM dM he2
  obtain ⟨-, -,l1⟩:=iq oG 1
  obtain ⟨-,e2,l2⟩:=iq oG 0
  rw [l1]at h1
  rw [l2,e2]at h2
  obtain ⟨a1,a2,a3⟩:=h1
  obtain ⟨b1,b2,b3⟩:=h2
  rw [List.append_nil]at*
  exact uo a1 a3 fun x=>(a2 x).trans (b2 x).symm
 ·have he2:¬ap G 1000000 0 1=0:=fun c=>he (nS c dM)
  unfold planS
  rw [if_neg he,if_neg he2]
  simp [fG,cx,ordZ]
def valN (G:GraphD):List NodV:=G.ns.map aY
def ordG (G:GraphD):List Nat:=bfsN (valN G) G.rs 1000000 1
def canE (G:GraphD):Int:=if aV G then 0 else 4
def canV (G:GraphD):List NodV:=if aV G then canN (valN G) (ordG G)else []
def canQ (G:GraphD):List (Int×Int):=if aV G then canR G.rs (ordG G)else []
def tU (G:GraphD):List Int:=if aV G then ordZ (ordG G)else []
theorem y4 (G:GraphD):ap G 1000000 0 1=canE G∧planS G 1000000 0 1=tU G:=by
 unfold planS ap canE tU
 cases hR:aV G with
 | false=>exact ⟨rfl,rfl⟩
 | true=>exact ⟨rfl,rfl⟩
theorem y5 {G:GraphD} (oG:GOk G) (hR:aV G=true):PgOk (valN G) G.rs:=(RchG.of oG.1 oG.2 hR (lim:=1000000) (blk:=1) ⟨by decide,by decide⟩ ⟨by decide,by decide⟩).pg
theorem xF {G:GraphD} (oG:GOk G) (hR:aV G=true):gC (valN G) 1000000:=fun i=>by
 have:=mB (RchG.of oG.1 oG.2 hR (lim:=1000000) (blk:=1) ⟨by decide,by decide⟩ ⟨by decide,by decide⟩) i
 change 1+((valN G).getD i (0,[],[])).2.1.length+((valN G).getD i (0,[],[])).2.2.length≤9000 at this
 omega
theorem gG {G:GraphD} (oG:GOk G) (hR:aV G=true):OrdOk (valN G) G.rs (ordG G):=(zV (y5 oG hR) (xF oG hR)).1
theorem xG {G:GraphD} (oG:GOk G) (hR:aV G=true):(ordG G).length≤G.ns.length:=by
 have h:=gG oG hR
 have:=fy G.ns.length (ordG G) h.nd (fun i hi=>by have:=h.lt i hi;simpa [valN]using this)
 exact this
theorem gH {G:GraphD} {i:Nat} (hi:i < G.ns.length):(valN G).getD i (0,[],[])=aY (G.ns.getD i default):=qY hi
theorem e7 {G:GraphD} {i:Nat} (h:i < (valN G).length):i < G.ns.length:=by simpa [valN]using h
theorem qk {G:GraphD} {o:List Nat} (hR:aV G=true) (h:OrdOk (valN G) G.rs o):renE G (ordZ o)=0:=by
 refine tM hR (tL fun i hi=> ?_) ?_
 ·rw [aN]at hi
  rw [dY hi]
  have h1:=e7 (h.lt _ (gE (d:=0) hi))
  refine ⟨by omega,by omega,?_⟩
  obtain ⟨j,hj,e1,e2⟩:=jb h.nd (x:=((o.getD i 0:Nat):Int)) oM (by rw [Int.toNat_natCast];exact gE (d:=0) hi)
  rw [Int.toNat_natCast]at e2
  rw [e1,nJ h.nd hj hi e2]
 ·have hv : ∀ v : Int × Int, (v.1 = 2 → 0 ≤ v.2 ∧ v.2.toNat ∈ o) → ¬ dF (ordZ o) v = true := fun v hb => by
   unfold dF
   rw [decide_eq_true_eq]
   rintro ⟨e,hp⟩
   obtain ⟨b1,b2⟩:=hb e
   obtain ⟨j,hj,e1, -⟩:=jb h.nd b1 b2
   omega
  simp only [nP,Bool.or_eq_false_iff,List.any_eq_false]
  refine ⟨fun j hj=> ?_,fun v hv'=>hv v (h.roots v hv')⟩
  rw [iI]at hj
  obtain ⟨i,hi,rfl⟩:=hj
  rw [Bool.not_eq_true,List.any_eq_false]
  intro v hv'
  have:=h.nodes i hi
  rw [gH (e7 (h.lt i hi))]at this
  exact hv v (this v (by rw [Int.toNat_natCast]at hv';exact hv'))
theorem ql {G:GraphD} {o:List Nat} (hR:aV G=true) (h:OrdOk (valN G) G.rs o):renN G (ordZ o)=canN (valN G) o∧renR G (ordZ o)=canR G.rs o:=by
 have he:=qk hR h
 unfold renN renR
 rw [if_pos he,if_pos he]
 refine ⟨?_,rfl⟩
 unfold canN ordZ
 rw [List.map_map]
 refine List.map_congr_left fun i hi=> ?_
 show tK (ordZ o) G.ns (i:Int)=nI (valN G) o i
 unfold tK nI
 rw [Int.toNat_natCast,gH (e7 (h.lt i hi))]
 rfl
def wgt (x:NodV):Nat:=min x.2.1.length 5000+min x.2.2.length 5000
theorem qm (ns:List NodeD):bulk ns=((ns.map aY).map wgt).sum:=by
 have:∀(l:List NodeD) (a:Int),l.foldl (fun (n:Int) x=>n+(min x.fields.length 5000+min x.raws.length 5000:Nat)) a=a+(((l.map aY).map wgt).sum:Nat):=by
  intro l
  induction l with
  | nil=>intro a;simp
  | cons x l ih=>
   intro a
   rw [List.foldl_cons,ih]
   simp only [List.map_cons,List.sum_cons]
   have:wgt (aY x)=min x.fields.length 5000+min x.raws.length 5000:=rfl
   rw [this]
   omega
 unfold bulk
 rw [this]
 omega
theorem y6 {f:Nat→Nat}:∀(n:Nat) (o:List Nat),o.Nodup→(∀i∈o,i < n)→(o.map f).sum≤((List.range n).map f).sum:=by
 intro n
 induction n with
 | zero=>
  intro o _ h
  cases o with
  | nil=>simp
  | cons x o=>exact absurd (h x (List.mem_cons_self ..)) oM
 | succ n ih=>
  intro o hd h
  rw [List.range_succ,List.map_append,List.sum_append]
  by_cases hn:n∈o
  ·have h1 := ih (o.erase n) (hd.erase n) (fun i hi => by
    have h2:=h i (List.mem_of_mem_erase hi)
    have h3:i≠n:=fun e=>by subst e;exact hd.not_mem_erase hi
    omega)
   have h2:=((List.perm_cons_erase hn).map f).sum_nat
   simp only [List.map_cons,List.sum_cons]at h2
   simp
   omega
  ·have h1 := ih o hd (fun i hi => by
    have h2:=h i hi
    have h3:i≠n:=fun e=>by subst e;exact hn hi
    omega)
   simp
   omega
structure Shp (H:GraphD):Prop where
 each:∀x∈H.ns,(x.fA=none→x.fcap=0)∧(x.rA=none→x.rcap=0)∧x.fields.length≤x.fcap∧x.raws.length≤x.rcap
 a:H.nA=none→H.ncap=0
 b:H.rA=none→H.rcap=0
 c:H.ns.length≤H.ncap
 d:H.rs.length≤H.rcap
theorem nT {o:List Nat} {v:Int×Int} (hol:o.length≤1000) (hv:(-9223372036854775808≤v.1∧v.1≤9223372036854775807)∧(-9223372036854775808≤v.2∧v.2≤9223372036854775807)):
  (-9223372036854775808≤(bI (ordZ o) v).1∧(bI (ordZ o) v).1≤9223372036854775807)∧(-9223372036854775808≤(bI (ordZ o) v).2∧(bI (ordZ o) v).2≤9223372036854775807):=by
 unfold bI
 split
 ·have:=pj (ordZ o) v.2
  rw [aN]at this
  simp only
  omega
 ·exact hv
theorem ur {G H:GraphD} {o:List Nat} (oG:GOk G) (hR:aV G=true) (h:OrdOk (valN G) G.rs o) (h1:valN H=canN (valN G) o) (h2:H.rs=canR G.rs o) (hs:Shp H):GOk H∧aV H=true:=by
 have hol:o.length≤G.ns.length:=fy G.ns.length o h.nd (fun i hi=>e7 (h.lt i hi))
 have hl:H.ns.length=o.length:=by have:=congrArg List.length h1;simpa [valN,canN]using this
 have hrl:H.rs.length=G.rs.length:=by rw [h2];simp [canR]
 obtain ⟨hLg1,hLg2⟩:=oG.2
 have hlg:G.ns.length≤1000:=by omega
 obtain ⟨r1,r2⟩:=jp hR
 have hev:∀y∈H.ns,∃i∈o,y.kind=(G.ns.getD i default).kind∧y.fields=(G.ns.getD i default).fields.map (bI (ordZ o))∧y.raws=(G.ns.getD i default).raws:=fun y hy=>by
  have:aY y∈canN (valN G) o:=by rw [←h1];exact List.mem_map.2 ⟨y,hy,rfl⟩
  obtain ⟨i,hi,e⟩:=List.mem_map.1 this
  refine ⟨i,hi,?_⟩
  unfold nI at e
  rw [gH (e7 (h.lt i hi))]at e
  simp only [aY,Prod.mk.injEq]at e
  exact ⟨e.1.symm,e.2.1.symm,e.2.2.symm⟩
 have hokv:∀v:Int×Int,okV G.ns.length v=true→(v.1=2→0≤v.2∧v.2.toNat∈o)→okV H.ns.length (bI (ordZ o) v)=true:=fun v ok hb=>by
  unfold bI
  by_cases e:v.1=2
  ·obtain ⟨b1,b2⟩:=hb e
   obtain ⟨j,hj,e1, -⟩:=jb h.nd b1 b2
   rw [if_pos e,e1,kL (by simp [cu];omega)]
   simp
   omega
  ·rw [if_neg e]
   have:cu v.1 v.2=true:=by simp [okV]at ok;exact ok.1
   obtain ⟨a,b⟩:=v
   exact kK this e
 refine ⟨⟨⟨by omega,by have:=oG.1.rl;omega,hs.a,hs.b,hs.c,hs.d,fun y hy=> ?_,fun v hv=> ?_⟩,?_⟩,?_⟩
 ·obtain ⟨i,hi,e1,e2,e3⟩:=hev y hy
  have ox:=oG.1.each _ (aF (d:=default) (e7 (h.lt i hi)))
  obtain ⟨a,b,c,d⟩:=hs.each y hy
  refine ⟨by rw [e1];exact ox.kind,by rw [e2,List.length_map];exact ox.fl,by rw [e3];exact ox.rl,a,b,c,d,fun v hv=> ?_,by rw [e3];exact ox.rv⟩
  rw [e2]at hv
  obtain ⟨u,hu,rfl⟩:=List.mem_map.1 hv
  exact nT oM (ox.fv u hu)
 ·rw [h2]at hv
  obtain ⟨u,hu,rfl⟩:=List.mem_map.1 hv
  exact nT oM (oG.1.rv u hu)
 ·have hb : bulk H.ns ≤ bulk G.ns := by
   rw [qm,qm]
   have e1:((H.ns.map aY).map wgt)=o.map fun i=>wgt ((valN G).getD i (0,[],[])):=by
    change (valN H).map wgt=_
    rw [h1]
    unfold canN
    rw [List.map_map]
    refine List.map_congr_left fun i hi=> ?_
    show wgt (nI (valN G) o i)=_
    simp [wgt,nI]
   have e2:((G.ns.map aY).map wgt)=(List.range G.ns.length).map fun i=>wgt ((valN G).getD i (0,[],[])):=by
    refine List.ext_getElem sM fun i h1 h2=> ?_
    have hi:i < G.ns.length:=by simpa using h1
    simp only [List.getElem_map,List.getElem_range]
    rw [gH hi,aW hi]
   rw [e1,e2]
   have:=y6 (f:=fun i=>wgt ((valN G).getD i (0,[],[]))) G.ns.length o h.nd (fun i hi=>e7 (h.lt i hi))
   omega
  exact ⟨by omega,by omega⟩
 ·simp only [aV,Bool.and_eq_true,List.all_eq_true]
  refine ⟨fun y hy=> ?_,fun v hv=> ?_⟩
  ·obtain ⟨i,hi,e1,e2,e3⟩:=hev y hy
   have hlt:=e7 (h.lt i hi)
   obtain ⟨a,b⟩:=r1 _ (aF (d:=default) hlt)
   refine ⟨by simp only [okN,e1,e2,e3,List.length_map]at a⊢;exact a,fun v hv=> ?_⟩
   rw [e2]at hv
   obtain ⟨u,hu,rfl⟩:=List.mem_map.1 hv
   have hn:=h.nodes i hi
   rw [gH hlt]at hn
   exact hokv u (b u hu) (hn u hu)
  ·rw [h2]at hv
   obtain ⟨u,hu,rfl⟩:=List.mem_map.1 hv
   exact hokv u (r2 u hu) (h.roots u hu)
def de (A B:GraphD):Bool:=aV A && aV B && (decide (canQ A=canQ B) && decide (canV A=canV B))
theorem sT {A B:GraphD}:de A B=true↔aV A=true∧aV B=true∧canQ A=canQ B∧canV A=canV B:=by
 simp [de,and_assoc]
end Go.Proofs.YtphpppjfogpohaaGreat
