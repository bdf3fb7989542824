/- Merged by program (merge.py) out of: RchO, RchQ, RchR, RchS. -/
import Derived.Test.YtphpppjfogpohaaGreatMq0
import Derived.Handy
import Derived.Test.YtphpppjfogpohaaGreatMq47
set_option linter.unusedSimpArgs false
set_option linter.unusedVariables false
set_option maxRecDepth 100000
set_option maxHeartbeats 16000000
namespace Go.Proofs.YtphpppjfogpohaaGreat
open Go.RowKit Go.Shelf
section
variable {V0 : World} {G : GraphD} {lim blk b K : Nat} {V : World}
def xQ (V0:World) (G:GraphD) (lim blk b o g:Nat) (lb:Array Value):Prop:=
 ∀(p:PlD) (K:Nat) (W:World),PP V0 G lim blk b K p W→K≤100000→PlOk (envG G lim blk) p→TopOk p→Calls Tryz.prog g lb W fun e w'=>jL V0 G lim blk b (K+1) p o W e w'
def gn (V0:World) (G:GraphD) (lim blk b o:Nat) (R:PlD) (f:Nat) (w:World):Prop:=
 ∃p,PP V0 G lim blk b (1001 - f) p w∧f≤1001∧PlInv (envG G lim blk) G.rs p∧TopOk p∧eG (envG G lim blk) p < f∧runP (envG G lim blk) o f p=R
theorem na (g:Nat) (lb:Array Value) (o:Nat) (ho1:o≠1) (eg:∀args w,(callFunc g args).run Tryz.prog w= .ok (.enter g args) w) (hp:xQ V0 G lim blk b o g lb) (h:PP V0 G lim blk b 0 PlD.new V) (hV:GraphAt V0 G) (hG:RchG G lim blk):
  Calls Tryz.prog 192 #[.pointer (some ⟨b,0,none⟩),.func (.func g) lb #[]] V fun e w'=>e= .returned (.tuple #[])∧PP V0 G lim blk b 1001 (planP (envG G lim blk) o G.rs) w':=by
 have HVG:=zH hV
 have HG:=zH hG
 have HPK:=zH hp
 have HH:=zH h
 have hnv:=jB (o:=o) (roots:=G.rs) hG.env (by rw [aX];have:=hG.pg.roots;simpa using this)
 have htv:=AZ (o:=o) (p:=PlD.new) hG ⟨by simp [PlD.new],by simp [PlD.new],by simp [PlD.new]⟩ (l:=G.rs) (by have:=hG.pg.roots;simpa using this)
 have elk:∀p l,lookP (envG G lim blk) o p l=allP (envG G lim blk) false p l:=fun p l=>by unfold lookP;rw [if_neg ho1]
 have ELK:=zH elk
 have HNV:=zH hnv
 have HT:=zH htv
 have HRL:Hid (G.rs.length≤8796093022208):=zH (by have:=hG.r;omega)
 have HVR:Hid (bF G.ns.length G.rs):=zH (by have:=hG.pg.roots;simpa using this)
 have HN60:=zH hG.n
 obtain ⟨sv,bv,kv,lv,pv,mv,mp,nm,f,Y,fi,hq⟩:=h
 have k1:=(aB hq.cel).1
 clear hq hp hnv htv elk hV hG
 go_enter Tryz.func192,Tryz.ntmps192
 go_wp2_with fail
 refine (mL PlD.new G.rs G.rA G.rcap HH.out oM HVG.out HVG.out.roots HRL.out HVR.out PlOk.new ⟨by simp [PlD.new],by simp [PlD.new],by simp [PlD.new]⟩ HG.out).mono ?_
 rintro e w1 ⟨rfl,hr, -⟩
 rw [←ELK.out]at hr
 have HI:Hid (∃f,gn V0 G lim blk b o (planP (envG G lim blk) o G.rs) f w1):=zH ⟨(envG G lim blk).n+1,_,PP.mono hr oM,by have:=HN60.out;rw [aX];omega,HNV.out.1,HT.out,HNV.out.2,rfl⟩
 clear hr HH HNV HT k1
 generalize hPR:planP (envG G lim blk) o G.rs=R at*
 have HPR:=zH hPR
 clear hPR
 go_wp2_with fail
 go_loopw [] (fun wr=>∃f,Hid (gn V0 G lim blk b o R f wr)) (fun wr=>leastN (fun f=>gn V0 G lim blk b o R f wr))
 case atStart=>obtain ⟨f,hf⟩:=HI.out;exact ⟨f,zH hf⟩
 case round=>
  obtain ⟨f0,hf0⟩:=hrel
  obtain ⟨hI,hmin⟩:=cH (P:=fun f=>gn V0 G lim blk b o R f wr) ⟨f0,hf0.out⟩
  have HLS:Hid (∀(w':World) (g:Nat),gn V0 G lim blk b o R g w'→g < leastN (fun f=>gn V0 G lim blk b o R f wr)→leastN (fun f=>gn V0 G lim blk b o R f w') < leastN (fun f=>gn V0 G lim blk b o R f wr)):=zH (fun w' g hg hlt=>Nat.lt_of_le_of_lt ((cH (P:=fun f=>gn V0 G lim blk b o R f w') ⟨g,hg⟩).2 g hg) hlt)
  generalize leastN (fun f=>gn V0 G lim blk b o R f wr)=f at*
  obtain ⟨p,hp,hf1,hi,ht,hlf,hrun⟩:=hI
  obtain ⟨r,rfl⟩:∃r,f=r+1:=⟨f - 1,by omega⟩
  rw [runP]at hrun
  have HP:=zH hp
  have HPI:=zH hi
  have HPT:=zH ht
  have HLF:=zH hlf
  have HF1:=zH hf1
  have HRUN:=zH hrun
  clear hp hi ht hlf hrun hf0 hmin hf1 HI
  go_wp2_with (go_at_fn g;refine (HPK.out p _ wr HP.out oM HPI.out.ok HPT.out).mono ?_;rintro e w2 ⟨i,ok,rfl,hnx,hp2, -⟩;refine Hid.out ?_)
  refine zH ?_
  have hp2:PP V0 G lim blk b (1001 - r) p w2:=PP.mono hp2 (by have:=HF1.out;omega)
  clear HP
  have HP:=zH hp2
  clear hp2
  cases hnp:cB (envG G lim blk) o p with
  | some j=>
   rw [hnp]at hnx
   obtain ⟨rfl,rfl⟩:=hnx
   obtain ⟨hi1,hi2⟩:=gi hnp
   have hst:bp (envG G lim blk) o p=some (lookP (envG G lim blk) o (p.looked j) ((envG G lim blk).fs (p.small.getD j 0))):=by unfold bp;rw [hnp]
   have HRUN2:=HRUN.out
   rw [hst]at HRUN2
   simp only at HRUN2
   obtain ⟨hq1,hq2⟩:=gA HG.out.env HPI.out hst
   have hmem:p.small.getD j 0∈p.small:=aF hi1
   have hxl:p.small.getD j 0 < G.ns.length:=by
    have:=HPI.out.ok.lt _ (List.mem_append_left _ hmem)
    rwa [aX]at this
   have HFS:=zH (fT (lim:=lim) (blk:=blk) _ hxl)
   rw [HFS.out]at HRUN2 hq1 hq2
   have HNV2:Hid (bF G.ns.length (G.ns.getD (p.small.getD j 0) default).fields):=zH (by
    have:=HG.out.env _ (by rw [aX];exact hxl)
    rw [aX,HFS.out]at this
    exact this)
   have HQ1:=zH hq1
   have HQ2:=zH hq2
   have HR2:=zH HRUN2
   have HNF:=zH (HG.out.f _ (aF (d:=default) hxl))
   have HNA:=zH (HVG.out.nodes.each _ (aF (d:=default) hxl))
   have HPT2:Hid (TopOk (p.looked j)):=zH HPT.out
   have HOK2:=zH (HPI.out.ok.lookd j)
   have HQT:=zH (AZ (o:=o) HG.out HPT2.out HNV2.out)
   have HLE:Hid (eG (envG G lim blk) (lookP (envG G lim blk) o (p.looked j) (G.ns.getD (p.small.getD j 0) default).fields) < r):=zH (by have:=HLF.out;omega)
   obtain ⟨nb,noff,hA,hcn⟩:=HVG.out.nodes.row.get oM
   obtain ⟨d0,d1',d2⟩:=ah hcn hxl
   obtain ⟨sv,bv,kv,lv,pv,mv,mp,nm,f,Y,fi,hq⟩:=HP.out
   have hll:=HPI.out.ok.ll
   obtain ⟨kA,kc,rfl, -⟩:=hq.pr.ok.form cn dM
   obtain ⟨sA,sc,rfl, -⟩:=hq.pr.os.form aO dM
   rw [aN]at hq
   obtain ⟨kg,rfl,_,_⟩:=bR hq.pr.ok (fun e=>by rw [e]at hll;simp at hll;omega)
   obtain ⟨sg,rfl,_,_⟩:=bR hq.pr.os (by intro e;have e2:p.small.length=0:=(by rw [←aN,e];rfl);omega)
   have k2:=(aB hq.cel).1
   obtain ⟨kcur,hkc⟩:=ci hq.pr.ok
   have fk:=(aB hkc).2
   have ck:=cd hq.pr.ok rfl (k:=j) oM
   have hbk:b≠kg:=fun e=>by have:=hq.cel;rw [e,hkc]at this;injection this with this;injection this with _ this;exact absurd this dM
   have jb0:(j:Int) < (p.lk.length:Int):=by omega
   have jb1:(0:Int)≤(j:Int):=by omega
   have hpr3:=hq.pr.setK rfl rfl j
   have hq3:PQ V0 G lim blk b _ _ _ _ _ _ _ nm f Y (1001 - r) fi (p.looked j) (w2.setCell ⟨kg,j,none⟩ (.bool true)):=⟨bM hq.cel (.bool true) hbk (i:=j),hpr3,hq.lo,hq.nx.lookd j,hq.nmk,hq.fst.lookd j⟩
   have HQ3:=zH hq3
   have cs:=eP hq3.pr.os aN (k:=j) hi1
   rw [show (p.looked j).small=p.small from rfl,dY (o:=p.small) (i:=j) hi1]at cs
   have CS:=zH cs
   have js0:(j:Int) < (p.small.length:Int):=by omega
   have D1:=zH d1'
   have jx0:(0:Int)≤((p.small.getD j 0:Nat):Int):=by omega
   have jx1:((p.small.getD j 0:Nat):Int) < (G.ns.length:Int):=by omega
   have HAA:=zH hA
   have D0:=zH d0
   have D2:=zH d2
   clear hA hi1 hi2 hst HRUN2 hq1 hq2 hmem hxl hcn d0 d1' d2 hq hll hkc hpr3 hq3 cs HRUN HPI HPT HLF HP hnp
   generalize p.small.getD j 0=x at*
   generalize G.ns.getD x default=y at*
   go_wp2_with fail
   generalize w2.setCell ⟨kg,j,none⟩ (.bool true)=W3 at*
   have hx3:=HQ3.out.pr.ext
   have HRP:Hid (PP V0 G lim blk b (1001 - r) (p.looked j) W3):=zH ⟨_,_,_,_,_,_,_,_,_,_,_,HQ3.out⟩
   have l1:=(aP HQ3.out.cel).cells
   simp only [PlD.looked]at l1
   have l2:=aJ CS.out
   have l3:=aJ (hx3.cell D1.out)
   rw [HAA.out]at l1
   have l5:=aJ (hx3.cell D0.out)
   have l6:=aJ (hx3.cell D2.out)
   have hs0:Ext W3 W3:=AD _
   clear k2 fk ck jb0 HQ3 hx3
   (refine cc (W:=W3) 16 kR kR aS ?_;simp only [List.take_succ_cons,List.take_zero,List.drop_succ_cons,List.drop_zero];(repeat (go_big_quiet_step (fail)));refine wpQuiet_nil ?_;intro w1 hx)
   replace HRP:=zH (HRP.out.grow hx)
   clear hx hs0 l1 l2 l3 l5 l6 CS
   go_wp2_with fail
   refine (mL (p.looked j) y.fields y.fA y.fcap HRP.out oM HVG.out HNA.out.fields (by have:=HNF.out;omega) HNV2.out HOK2.out HPT2.out HG.out).mono ?_
   rintro e w5 ⟨rfl,hr, -⟩
   rw [←ELK.out]at hr
   have HRI:Hid (gn V0 G lim blk b o R r w5):=zH ⟨_,hr,by have:=HF1.out;omega,HQ1.out,HQT.out,HLE.out,HR2.out⟩
   have HLN:=zH (HLS.out w5 r HRI.out oM)
   clear hr HRP
   go_wp2_with fail
   go_roundw
   case rel=>exact ⟨r,HRI⟩
   case measure=>exact HLN.out
  | none=>
   rw [hnp]at hnx
   subst hnx
   have hmet:=HPI.out.ok.met_le
   have hn:=HN60.out
   rw [aX]at hmet
   unfold PlD.met at hmet
   have hpl:=HPT.out.2.1
   have HPL:Hid (p.pile.length≤1000):=zH oM
   clear hmet hn hpl
   go_wp2_with fail
   refine (mM p HP.out HPL.out).mono ?_
   rintro e w3 ⟨hm, -⟩
   cases hpl:p.pile.getLast? with
   | none=>
    rw [hpl]at hm
    obtain ⟨rfl,hp3⟩:=hm
    have hst:bp (envG G lim blk) o p=none:=by unfold bp;rw [hnp,hpl]
    have HRUN2:=HRUN.out
    rw [hst]at HRUN2
    simp only at HRUN2
    have HRE:=zH HRUN2
    have HP3:=zH hp3
    clear HRUN2 hst hpl hnp hp3 HRUN HP hp2
    go_wp2_with fail
    go_returns
    refine ⟨rfl,?_⟩
    rw [HPR.out,←HRE.out]
    exact HP3.out.mono oM
   | some x=>
    rw [hpl]at hm
    obtain ⟨rfl,hp3⟩:=hm
    have hpe:=dX hpl
    have hst:bp (envG G lim blk) o p=some (lookP (envG G lim blk) o p.popped ((envG G lim blk).fs x)):=by unfold bp;rw [hnp,hpl]
    have HRUN2:=HRUN.out
    rw [hst]at HRUN2
    simp only at HRUN2
    obtain ⟨hq1,hq2⟩:=gA HG.out.env HPI.out hst
    have hmem:x∈p.large:=HPI.out.ok.pl x (by rw [hpe];simp)
    have hxl:x < G.ns.length:=by
     have:=HPI.out.ok.lt _ (List.mem_append_right _ hmem)
     rwa [aX]at this
    have HFS:=zH (fT (lim:=lim) (blk:=blk) _ hxl)
    rw [HFS.out]at HRUN2 hq1 hq2
    have HNV2:Hid (bF G.ns.length (G.ns.getD x default).fields):=zH (by
     have:=HG.out.env _ (by rw [aX];exact hxl)
     rw [aX,HFS.out]at this
     exact this)
    have HQ1:=zH hq1
    have HR2:=zH HRUN2
    have HNF:=zH (HG.out.f _ (aF (d:=default) hxl))
    have HNA:=zH (HVG.out.nodes.each _ (aF (d:=default) hxl))
    have HPT2:Hid (TopOk p.popped):=zH ⟨HPT.out.1,by have:=HPT.out.2.1;simp only [PlD.popped,List.length_dropLast];omega,HPT.out.2.2⟩
    have HOK2:=zH HPI.out.ok.popd
    have HQT:=zH (AZ (o:=o) HG.out HPT2.out HNV2.out)
    have HLE:Hid (eG (envG G lim blk) (lookP (envG G lim blk) o p.popped (G.ns.getD x default).fields) < r):=zH (by have:=HLF.out;omega)
    obtain ⟨nb,noff,hA,hcn⟩:=HVG.out.nodes.row.get oM
    obtain ⟨d0,d1',d2⟩:=ah hcn hxl
    have HP3:=zH hp3
    have hx3:=hp3.ext
    have m5:=hx3.cell d1'
    obtain ⟨sv,bv,kv,lv,pv,mv,mp,nm,f,Y,fi,hq⟩:=hp3
    have m4:=(aB hq.cel).1
    rw [hA]at m4
    have jx0:(0:Int)≤(x:Int):=by omega
    have jx1:(x:Int) < (G.ns.length:Int):=by omega
    clear hx3 hA hpe hst HRUN2 hq1 hq2 hmem hxl hcn d0 d1' d2 hq HRUN HPI HPT HLF HP hnp hpl hp2
    generalize G.ns.getD x default=y at*
    go_wp2_with fail
    refine (mL p.popped y.fields y.fA y.fcap HP3.out oM HVG.out HNA.out.fields (by have:=HNF.out;omega) HNV2.out HOK2.out HPT2.out HG.out).mono ?_
    rintro e w5 ⟨rfl,hr, -⟩
    rw [←ELK.out]at hr
    have HRI:Hid (gn V0 G lim blk b o R r w5):=zH ⟨_,hr,by have:=HF1.out;omega,HQ1.out,HQT.out,HLE.out,HR2.out⟩
    have HLN:=zH (HLS.out w5 r HRI.out oM)
    clear hr HP3 m4 m5
    go_wp2_with fail
    go_roundw
    case rel=>exact ⟨r,HRI⟩
    case measure=>exact HLN.out
end
structure WayD where
 A:Option Addr
 l:List (Int×Int)
 cap:Nat
 at_:Nat
def wayC (x:WayD):List Value:= [.slice x.A x.l.length x.cap,.int .i64 x.at_]
theorem eH:Cells 2 wayC:=⟨fun _=>rfl,fun x u h=>by simp [wayC]at h;rcases h with rfl | rfl <;>rfl⟩
theorem xR:(Tryz.prog.info? 264).map (fun i=>(i.zero,i.size,i.bytes))=some (some (.agg #[.slice none 0 0,.int .i64 0]),2,32):=by kernel_rfl
theorem yf:Info Tryz.prog 265 264 2 32:=
 ⟨Tryz.underlying265,by obtain ⟨i0,hi,hz0,hz1,hz2⟩:=info_parts xR;exact ⟨i0,_,hi,hz0,hz1,hz2,rfl⟩,by decide⟩
theorem xS {α:Type} {e:TypeId} {n:Nat} {f:α→List Value} {B:Nat} {w:World} (hf:Cells n f) (ys:List α) (cs:Array Value) (hcs:cs=(ys.flatMap f).toArray) (m:Nat) (hm:ys.length=m) (hB:B≤w.heap.size) (h63:m≤maxLen) (H:Nat) (hH:w.heap.size=H):
  Own e n f (w.alloc (.cells cs e)) B (.slice (some ⟨H,0,none⟩) m m) ys:=by
 subst hcs hm hH
 refine ⟨cU hf ys,.inr ⟨w.heap.size,ys.length,_,rfl,hB,heap_alloc_new w _,Nat.le_refl _,h63,by simp [cU hf],?_⟩⟩
 rw [List.take_of_length_le (by simp [cU hf])]
theorem vB {α:Type} {n:Nat} {f:α→List Value} (hf:Cells n f) (y:α) (j:Nat) (hj:j < n) (u:Value):∀(xs:List α) (k:Nat) (hk:k < xs.length),f y=(f xs[k]).set j u→(xs.set k y).flatMap f=(xs.flatMap f).set (k*n+j) u:=by
 intro xs
 induction xs with
 | nil=>intro k hk;simp at hk
 | cons x xs ih=>
  intro k hk h
  have hl:=hf.len x
  cases k with
  | zero=>
   simp only [List.set_cons_zero,List.flatMap_cons,Nat.zero_mul,Nat.zero_add]
   rw [List.set_append_left _ _ (by rw [hl];exact hj)]
   rw [show f y=(f x).set j u from h]
  | succ k=>
   simp only [List.set_cons_succ,List.flatMap_cons]
   have e:(k+1)*n+j=n+(k*n+j):=by rw [Nat.succ_mul];omega
   rw [List.set_append_right _ _ (by rw [hl,e];omega),hl,e,Nat.add_sub_cancel_left]
   congr 1
   exact ih k (by simpa using hk) (by simpa using h)
theorem xT {α:Type} {e:TypeId} {n:Nat} {f:α→List Value} {w:World} {B g N cap:Nat} {xs:List α} (hf:Cells n f) (h:Own e n f w B (.slice (some ⟨g,0,none⟩) N cap) xs) (hn:xs.length=N) (k j:Nat) (hk:k < xs.length) (hj:j < n) (y:α) (u:Value) (hy:f y=(f xs[k]).set j u):
  Own e n f (w.setCell ⟨g,k*n+j,none⟩ u) B (.slice (some ⟨g,0,none⟩) N cap) (xs.set k y):=by
 unfold Own at h⊢
 rw [List.length_set,vB hf y j hj u xs k hk hy,hn]
 rw [hn]at h
 exact (World.ownsRow.stored h (k*n+j) u).1
section
variable {V0 : World} {G : GraphD} {lim blk b K : Nat} {p : PlD} {w w' : World}
theorem PP.keptW (h:PP V0 G lim blk b K p w) {wv:Value} {xs:List WayD} (ho:Own 264 2 wayC w V0.heap.size wv xs) (hg:w.grownBy w' wv.ownBlock):PP V0 G lim blk b K p w':=by
 obtain ⟨sv,bv,kv,lv,pv,mv,mp,nm,f,Y,fi,hq⟩:=h
 have h:=hq.pr
 refine ⟨sv,bv,kv,lv,pv,mv,mp,nm,f,Y,fi,(hg.block b (aA hq.cel) (ho.ne_block hq.cel dM)).trans hq.cel,⟨h.os.keep2 ho dM hg,h.ob.keep2 ho dM hg,h.ok.keep2 ho dM hg,h.ol.keep2 ho dM hg,h.op.keep2 ho dM hg,h.om.keep2 ho dM hg,h.mpv.kept hg (fun e=> ?_),fun c=>(h.fam c).kept hg (fun g hv e=> ?_),h.sep,h.sepf,h.sepc,h.mlo,ho.grown hg (Nat.le_refl _) h.ext⟩,hq.lo,hq.nx,hq.nmk,hq.fst⟩
 ·obtain ⟨cur,hc⟩:=b5 ho e.symm
  exact h.mpv.ne hc rfl
 ·obtain ⟨cur,hc⟩:=b5 ho e.symm
  obtain ⟨cur2,hc2⟩:=eU (h.fam c) hv
  rw [hc]at hc2
  injection hc2 with hc2
  injection hc2 with _ hc2
  exact absurd hc2 dM
theorem PP.setW (h:PP V0 G lim blk b K p w) {g i:Nat} {u:Value} {cs:Array Value} (hb:w.heap[g]?=some (.cells cs 264 (0,0))) (hlo:V0.heap.size≤g):PP V0 G lim blk b K p (w.setCell ⟨g,i,none⟩ u):=by
 obtain ⟨sv,bv,kv,lv,pv,mv,mp,nm,f,Y,fi,hq⟩:=h
 exact ⟨sv,bv,kv,lv,pv,mv,mp,nm,f,Y,fi,bM hq.cel u (fun e=>by have h2:=hq.cel;rw [e,hb]at h2;injection h2 with h2;injection h2 with _ h2;exact absurd h2 dM),hq.pr.far hb dM dM hlo,hq.lo,hq.nx,hq.nmk,hq.fst⟩
theorem yg {wv:Value} {xs:List WayD} (h:Own 264 2 wayC w V0.heap.size wv xs) (hk:KpT w w'):Own 264 2 wayC w' V0.heap.size wv xs:=
 h.same fun g cs t r hv hg=>by
  obtain ⟨cur,hc⟩:=b5 h hv
  rw [hg]at hc
  injection hc with hc
  injection hc with h1 h2 h3
  subst h1 h2 h3
  exact hk g _ _ _ hg dM dM dM
end
theorem vC {α:Type} (xs:List α):xs= []∨∃ys x,xs=ys++ [x]:=by
 cases h:xs.getLast? with
 | none=>exact .inl (List.getLast?_eq_none_iff.1 h)
 | some x=>
  rw [List.getLast?_eq_some_iff]at h
  obtain ⟨ys,rfl⟩:=h
  exact .inr ⟨ys,x,rfl⟩
def yv (V0:World) (G:GraphD) (x:WayD):Prop:=SpansAt V0 x.A x.l∧x.l.length≤4096∧bF G.ns.length x.l∧x.at_≤x.l.length
def rC (xs:List WayD):List (List (Int×Int)):=(xs.map fun x=>x.l.drop x.at_).reverse
def wSum (xs:List WayD):Nat:=(xs.map fun x=>x.l.length - x.at_+1).sum
theorem gl (ys:List WayD) (x:WayD):rC (ys++ [x])=x.l.drop x.at_::rC ys:=by simp [rC]
theorem iV (ys:List WayD) (x:WayD):wSum (ys++ [x])=wSum ys+(x.l.length - x.at_+1):=by simp [wSum]
def gJ (V0:World) (G:GraphD) (lim blk b K:Nat) (R:PlD) (m:Nat) (wv:Value) (w:World):Prop:=
 ∃p xs,PP V0 G lim blk b K p w∧Own 264 2 wayC w V0.heap.size wv xs∧(∀x∈xs,yv V0 G x)∧PlOk (envG G lim blk) p∧TopOk p∧xs.length≤p.met+1∧iC (envG G lim blk) false ((envG G lim blk).n+1+1) p (rC xs)=R∧((envG G lim blk).n - p.met)*5000+wSum xs≤m
section
variable {V0 : World} {G : GraphD} {lim blk b K : Nat} {V : World}
theorem nf (p:PlD) (l:List (Int×Int)) (A:Option Addr) (cap:Nat) (h:PP V0 G lim blk b K p V) (hK:K≤100000) (hV:GraphAt V0 G) (hl:SpansAt V0 A l) (hll:l.length≤4096) (hv:bF G.ns.length l) (ho:PlOk (envG G lim blk) p) (ht:TopOk p) (hG:RchG G lim blk):
  Calls Tryz.prog 221 #[.pointer (some ⟨b,0,none⟩),.slice A l.length cap] V fun e w'=>e= .returned (.tuple #[])∧PP V0 G lim blk b K (deepP (envG G lim blk) false ((envG G lim blk).n+1) p l) w':=by
 have hfu:=nH (mk:=false) hG.env ((envG G lim blk).n+1) p l ho (by rw [aX];exact hv) oM
 rw [←hfu]
 have hy:=(AD V).alloc (.cells #[.slice A l.length cap,.int .i64 (0:Nat)] 264)
 have hsz:=h.ext.size
 have HI:Hid (∃m,gJ V0 G lim blk b K (deepP (envG G lim blk) false ((envG G lim blk).n+1+1) p l) m (.slice (some ⟨V.heap.size,0,none⟩) 1 1) (V.alloc (.cells #[.slice A l.length cap,.int .i64 (0:Nat)] 264))):=
  zH ⟨_,p,[⟨A,l,cap,0⟩],h.grow hy,xS eH [⟨A,l,cap,0⟩] _ rfl 1 rfl hsz (by simp [maxLen]) _ rfl,by intro x hx;rw [List.mem_singleton.1 hx];exact ⟨hl,hll,hv,Nat.zero_le _⟩,ho,ht,by simp,rfl,Nat.le_refl _⟩
 have HKB:=zH hK
 have HVG:=zH hV
 have HG:=zH hG
 generalize deepP (envG G lim blk) false ((envG G lim blk).n+1+1) p l=R at*
 clear h hK hV hl hll hv ho ht hG hfu hy hsz
 go_enter Tryz.func221,Tryz.ntmps221
 go_wp2_with fail
 go_loopw [4] (fun wv wr=>∃m,Hid (gJ V0 G lim blk b K R m wv wr)) (fun wv wr=>leastN (fun m=>gJ V0 G lim blk b K R m wv wr))
 case atStart=>obtain ⟨m,hm⟩:=HI.out;exact ⟨m,zH hm⟩
 case round=>
  obtain ⟨m0,hm0⟩:=hrel
  obtain ⟨wv,rfl⟩:∃wv:Value,wv=u4:=⟨_,rfl⟩
  obtain ⟨hI,hmin⟩:=cH (P:=fun m=>gJ V0 G lim blk b K R m wv wr) ⟨m0,hm0.out⟩
  have HLS:Hid (∀(v':Value) (w':World) (g:Nat),gJ V0 G lim blk b K R g v' w'→g < leastN (fun m=>gJ V0 G lim blk b K R m wv wr)→leastN (fun m=>gJ V0 G lim blk b K R m v' w') < leastN (fun m=>gJ V0 G lim blk b K R m wv wr)):=zH (fun v' w' g hg hlt=>Nat.lt_of_le_of_lt ((cH (P:=fun m=>gJ V0 G lim blk b K R m v' w') ⟨g,hg⟩).2 g hg) hlt)
  generalize hM:leastN (fun m=>gJ V0 G lim blk b K R m wv wr)=m at*
  obtain ⟨p,xs,hp,how,hwy,hok,htp,hln,hpi,hms⟩:=hI
  obtain ⟨wA,wc,rfl, -, -, -,hwc, -⟩:=how.form eH dM
  rcases vC xs with rfl | ⟨ys,x,rfl⟩
  ·have HRE:Hid (p=R):=zH (by rw [←hpi];rfl)
   have HP:=zH hp
   clear hp how hwy hok htp hln hpi hms hmin hm0 HI hwc hM
   go_wp2_with fail
   go_returns
   refine ⟨rfl,?_⟩
   rw [←HRE.out]
   exact HP.out
  have hxk:=hwy x sM
  have hln2:(ys++ [x]).length=ys.length+1:=by simp
  rw [gl]at hpi
  rw [iV]at hms
  rw [hln2]at hln hwc how hM⊢
  have HM:=zH hM
  clear hM
  obtain ⟨wg,rfl,hwlo,hwhi⟩:=bR how sM
  obtain ⟨wcur,hwcur⟩:=ci how
  have c0:=gu eH dM how hln2 ys.length 0 sM (.slice x.A x.l.length x.cap) (by simp [wayC])
  have c1:=gu eH dM how hln2 ys.length 1 sM (.int .i64 x.at_) (by simp [wayC])
  rw [Nat.add_zero]at c0
  have hmet:=hok.met_le
  rw [aX]at hmet
  have hkl:ys.length≤1000:=by have:=HG.out.n;omega
  have HP:=zH hp
  have HOW:=zH how
  have HWY:=zH hwy
  have HOK:=zH hok
  have HTP:=zH htp
  have HLN:=zH hln
  have HPI:=zH hpi
  have HMS:=zH hms
  have HXK:=zH hxk
  have HWC:=zH hwcur
  have HWL:=zH hwlo
  have l1:=aJ c0
  have l2:=aJ c1
  have C0:=zH c0
  have C1:=zH c1
  have hs0:Ext wr wr:=AD _
  have jb0:(0:Int)≤(ys.length:Int):=by omega
  have jb2:(ys.length:Int)≤(wc:Int):=by omega
  clear hp how hwy hok htp hln hpi hms hmin hm0 HI hmet hxk c0 c1 hwcur hwlo hwhi hln2
  by_cases hat:x.at_=x.l.length
  ·have dt:((x.at_:Int)==(x.l.length:Int))=true:=by rw [hat];simp
   have HAT:=zH hat
   clear hat
   go_wp2_with fail
   (refine aC (W:=wr) kR kR aS ?_;(repeat (go_big_quiet_step (fail)));refine wpQuiet_nil ?_;intro w1 hx)
   have hot:=kn HOW.out eH sM ys.length oM
   rw [List.take_left]at hot
   have HDI:Hid (gJ V0 G lim blk b K R (m - 1) (.slice (some ⟨wg,0,none⟩) ys.length wc) w1):=zH ⟨p,ys,HP.out.grow hx,hot.ext hx,fun z hz=>HWY.out z (by simp [hz]),HOK.out,HTP.out,by have:=HLN.out;omega,by rw [←HPI.out,HAT.out,List.drop_length];exact uW.symm,by have:=HMS.out;omega⟩
   have HLL:=zH (HLS.out _ _ _ HDI.out (by have:=HMS.out;omega))
   clear hx hs0 l1 l2 hot
   go_wp2_with fail
   go_roundw
   case rel=>exact ⟨m - 1,HDI⟩
   case measure=>exact Nat.lt_of_lt_of_eq HLL.out HM.out.symm
  have hlt:x.at_ < x.l.length:=Nat.lt_of_le_of_ne HXK.out.2.2.2 hat
  have dt:((x.at_:Int)==(x.l.length:Int))=false:=by rw [beq_eq_false_iff_ne];omega
  obtain ⟨lb,off,hA,hcl⟩:=HXK.out.1.get oM
  obtain ⟨e1,e2⟩:=aQ hcl hlt
  have hx0:=HP.out.ext
  have C2:=zH (hx0.cell e1)
  have C3:=zH (hx0.cell e2)
  have HLT:=zH hlt
  have HVO:=zH (HXK.out.2.2.1 _ (aF (d:=(0,0)) hlt))
  have HDR:Hid (x.l.drop x.at_=x.l.getD x.at_ (0,0)::x.l.drop (x.at_+1)):=zH (by rw [List.drop_eq_getElem_cons hlt,aW (d:=(0,0)) hlt])
  have jx0:(0:Int)≤(x.at_:Int):=by omega
  have jx1:(x.at_:Int) < (x.l.length:Int):=by omega
  rw [hA]at l1
  have HA:=zH hA
  clear hcl e1 e2 hx0 hat hA
  generalize x.l.getD x.at_ (0,0)=v at*
  go_wp2_with fail
  (refine aC (W:=wr) kR kR aS ?_;(repeat (go_big_quiet_step (fail)));refine wpQuiet_nil ?_;intro w1 hx)
  have l1:=aJ (hx.cell C0.out)
  rw [HA.out]at l1
  have l2:=aJ (hx.cell C1.out)
  have l3:=aJ (hx.cell C2.out)
  have l4:=aJ (hx.cell C3.out)
  replace HOW:=zH (HOW.out.ext hx)
  replace HP:=zH (HP.out.grow hx)
  replace HWC:=zH ((hx.block (aA HWC.out)).trans HWC.out)
  have hs0:Ext w1 w1:=AD _
  clear C0 C1 C2 C3 hx
  obtain ⟨wa,rfl⟩:∃wa:World,wa=w1:=⟨_,rfl⟩
  go_wp2_with fail
  (refine az (W:=wa) [(0,true),(1,true),(2,true),(3,true),(4,true),(5,true),(6,true),(7,true),(8,true),(9,true)] [10] [11] kR kR (by intro c a d v w h;cases d <;>first | exact h | (cases h;done) | cases h.1.1 | cases h.1) aS ?_;simp only [aI,List.map_cons,List.map_nil,List.getD_cons_zero,List.getD_cons_succ];(repeat (go_big_quiet_step (fail)));refine wpQuiet_nil ?_;intro w1 hx;(repeat (refine cT rM ?_;intro K hK;go_simp;refine hK _ _ zG ?_;clear hK K));refine cD ?_)
  replace HOW:=zH (HOW.out.ext hx)
  replace HP:=zH (HP.out.grow hx)
  replace HWC:=zH ((hx.block (aA HWC.out)).trans HWC.out)
  have hy:=(AD w1).alloc (.cells #[.int .i64 v.1,.int .i64 v.2] 71)
  have how2:=HOW.out.ext hy
  have hwc2:=(hy.block (aA HWC.out)).trans HWC.out
  have c1:=gu eH dM how2 sM ys.length 1 sM (.int .i64 x.at_) (by simp [wayC])
  have fw:=(aB hwc2).2
  have hb6:=aR w1 #[.int .i64 v.1,.int .i64 v.2] 71 _ rfl
  have hws:wrap64 ((x.at_:Int)+1)=((x.at_+1:Nat):Int):=by
   have:=HXK.out.2.1
   have:=HLT.out
   rw [n7 oM]
   rfl
  have how3:=xT eH how2 sM ys.length 1 sM dM ⟨x.A,x.l,x.cap,x.at_+1⟩ (.int .i64 (wrap64 ((x.at_:Int)+1))) (by simp [wayC,hws])
  rw [List.set_append_right _ _ (Nat.le_refl _),Nat.sub_self,List.set_cons_zero]at how3
  have hp3:=(HP.out.grow hy).setW (i:=ys.length*2+1) (u:= .int .i64 (wrap64 ((x.at_:Int)+1))) hwc2 HWL.out
  have hne:w1.heap.size≠wg:=by have:=aA HWC.out;omega
  have hb63:=bM hb6 (.int .i64 (wrap64 ((x.at_:Int)+1))) hne (i:=ys.length*2+1)
  have k6:=(aB hb63).1
  replace HOW:=zH how3
  replace HP:=zH hp3
  have HB6:=zH hb63
  clear hx hs0 l1 l2 l3 l4 dt hy how2 hwc2 hb6 how3 hp3 hb63 HWC hws hne
  go_wp2_with fail
  generalize ((w1.alloc (.cells #[.int .i64 v.1,.int .i64 v.2] 71)).setCell ⟨wg,ys.length*2+1,none⟩ (.int .i64 (wrap64 ((x.at_:Int)+1))))=w2 at*
  generalize w1.heap.size=H6 at*
  refine (n6 HP.out HKB.out HVG.out v HVO.out HOK.out HTP.out HG.out).mono ?_
  rintro e w4 ⟨rfl,hp4,hk4⟩
  have how4:=yg HOW.out hk4
  have hb64:=hk4 H6 _ _ _ HB6.out dM dM dM
  have HWX:Hid (∀z∈ys++ [⟨x.A,x.l,x.cap,x.at_+1⟩],yv V0 G z):=zH (fun z hz=>by
   rcases List.mem_append.1 hz with hz | hz
   ·exact HWY.out z (by simp [hz])
   ·rw [List.mem_singleton.1 hz]
    exact ⟨HXK.out.1,HXK.out.2.1,HXK.out.2.2.1,HLT.out⟩)
  have HOK4:Hid (PlOk (envG G lim blk) (meetP (envG G lim blk) false p v)):=zH (HOK.out.meet fun e=>by rw [aX];have:=HVO.out e;omega)
  have HTP4:Hid (TopOk (meetP (envG G lim blk) false p v)):=zH (HTP.out.meet HG.out HVO.out)
  have hmm:=iB (E:=envG G lim blk) (mk:=false) (p:=p) (v:=v)
  clear hk4 c1 fw k6 HB6 HOW HP
  cases hn:newP (envG G lim blk) p v with
  | false=>
   have HDI:Hid (gJ V0 G lim blk b K R (m - 1) (.slice (some ⟨wg,0,none⟩) (ys.length+1) wc) w4):=zH ⟨meetP (envG G lim blk) false p v,_,hp4,how4,HWX.out,HOK4.out,HTP4.out,by have:=HLN.out;simp;omega,by rw [gl,←HPI.out,HDR.out];exact (uV hn).symm,by have:=HMS.out;have:=HLT.out;rw [iV];simp only;omega⟩
   have HLL:=zH (HLS.out _ _ _ HDI.out (by have:=HMS.out;omega))
   clear hp4 how4 hb64
   go_wp2_with fail
   go_roundw
   case rel=>exact ⟨m - 1,HDI⟩
   case measure=>exact Nat.lt_of_lt_of_eq HLL.out HM.out.symm
  | true=>
   have hv2:v.1=2:=(AQ.1 (fF.1 hn).1).1
   obtain ⟨jv0,jv1⟩:=HVO.out hv2
   have hxl:v.2.toNat < G.ns.length:=by omega
   have HPI4:Hid (iC (envG G lim blk) false ((envG G lim blk).n+1+1) (meetP (envG G lim blk) false p v) ((G.ns.getD v.2.toNat default).fields::x.l.drop (x.at_+1)::rC ys)=R):=zH (by
    rw [←HPI.out,HDR.out,←fT (lim:=lim) (blk:=blk) _ hxl]
    exact (uU HG.out.env HOK.out (by rw [aX];exact HVO.out) oM hn).symm)
   have HNV2:Hid (bF G.ns.length (G.ns.getD v.2.toNat default).fields):=zH (by
    have:=HG.out.env _ (by rw [aX];exact hxl)
    rw [aX,fT (lim:=lim) (blk:=blk) _ hxl]at this
    exact this)
   have HMET:Hid ((meetP (envG G lim blk) false p v).met=p.met+1):=zH (jA hn)
   have hmle:=HOK4.out.met_le
   have HNF:=zH (HG.out.f _ (aF (d:=default) hxl)).1
   have HNA:=zH (HVG.out.nodes.each _ (aF (d:=default) hxl))
   obtain ⟨nb,noff,hA2,hcn⟩:=HVG.out.nodes.row.get oM
   obtain ⟨d0,d1',d2⟩:=ah hcn hxl
   have HP4:=zH hp4
   have hx4:=hp4.ext
   have HX4:=zH hx4.size
   have l3:=aJ (hx4.cell d1')
   have l4:=aJ (hx4.cell d0)
   have l5:=aJ (hx4.cell d2)
   have HL6:=aP hb64
   have l6:=HL6.cells
   obtain ⟨sv,bv,kv,lv,pv,mv,mp,nm,f,Y,fi,hq⟩:=hp4
   have l7:=(aP hq.cel).cells
   rw [hA2]at l7
   have HOW:=zH how4
   have HMLE:=zH hmle
   have hs0:Ext w4 w4:=AD _
   clear l1 l2 hx4 hA2 hcn d0 d1' d2 hq how4 hb64 hn hmm hmle HL6
   generalize G.ns.getD v.2.toNat default=y at*
   generalize meetP (envG G lim blk) false p v=p4 at*
   go_wp2_with fail
   (refine az (W:=w4) [(0,true),(1,true),(2,true),(3,true),(4,true),(5,true),(6,true),(7,true),(8,true),(9,true),(10,true),(11,true)] [12] [13,14] kR kR (by intro c a d v w h;cases d <;>first | exact h | (cases h;done) | cases h.1.1 | cases h.1) aS ?_;simp only [aI,List.map_cons,List.map_nil,List.getD_cons_zero,List.getD_cons_succ];(repeat (go_big_quiet_step (fail)));refine wpQuiet_nil ?_;intro w1 hx;(repeat (refine cT rM ?_;intro K hK;go_simp;refine hK _ _ zG ?_;clear hK K));refine cD ?_)
   obtain ⟨wb,rfl⟩:∃wb:World,wb=w1:=⟨_,rfl⟩
   have hy:=hx.alloc (.cells #[.slice y.fA y.fields.length y.fcap,.int .i64 (0:Nat)] 264)
   have HL5:=zH (aR wb #[.slice y.fA y.fields.length y.fcap,.int .i64 (0:Nat)] 264 _ rfl)
   replace HOW:=zH (HOW.out.ext hy)
   replace HP4:=zH (HP4.out.grow hy)
   replace HX4:=zH (Nat.le_trans HX4.out hy.size)
   clear hx hs0 l3 l4 l5 l6 l7 hy
   generalize wb.alloc (.cells #[.slice y.fA y.fields.length y.fcap,.int .i64 (0:Nat)] 264)=w5 at*
   generalize wb.heap.size=H5 at*
   go_wp2_with (at_builtin;refine an rfl (.tmp 53) (.tmp 65) 265 rfl yf eH rM HOW.out [⟨y.fA,y.fields,y.fcap,0⟩] ⟨H5,0,none⟩ 1 (ys.length+2) 1 sM rfl rM (el HL5.out rfl eH dM) oM (by simp [maxLen];omega) HX4.out ?_;intro A5 c5 w6 ho6 hg6 ht6;have HP6:=zH (HP4.out.keptW HOW.out hg6);have HO6:=zH ho6;clear ho6 hg6 ht6)
   have HDI:Hid (gJ V0 G lim blk b K R (m - 1) (.slice A5 (ys.length+2) c5) w6):=zH ⟨p4,_,HP6.out,HO6.out,fun z hz=>(by
    rcases List.mem_append.1 hz with hz | hz
    ·exact HWX.out z hz
    ·rw [List.mem_singleton.1 hz]
     exact ⟨HNA.out.fields,HNF.out,HNV2.out,Nat.zero_le _⟩),HOK4.out,HTP4.out,by have:=HLN.out;have:=HMET.out;simp;omega,by rw [gl,gl];exact HPI4.out,by
     have h1:=HMS.out
     have h2:=HLT.out
     have h3:=HMET.out
     have h4:=HMLE.out
     have h5:=HNF.out
     rw [iV,iV]
     simp only
     omega⟩
   have HLL:=zH (HLS.out _ _ _ HDI.out (by have:=HMS.out;omega))
   go_roundw
   case rel=>exact ⟨m - 1,HDI⟩
   case measure=>exact Nat.lt_of_lt_of_eq HLL.out HM.out.symm
end
structure PlD.Same (p q:PlD):Prop where
 s:p.small=q.small
 b:p.begins=q.begins
 k:p.lk.length=q.lk.length
 l:p.large=q.large
 pl:p.pile=q.pile
 t:p.top=q.top
section
variable {E : PlE} {p q : PlD}
theorem PlD.Same.refl (p:PlD):p.Same p:=⟨rfl,rfl,rfl,rfl,rfl,rfl⟩
theorem PlD.Same.has (h:p.Same q) (i:Nat):p.has i=q.has i:=by unfold PlD.has;rw [h.s,h.l]
theorem PlD.Same.fresh (h:p.Same q) (v:Int×Int):p.fresh v=q.fresh v:=by unfold PlD.fresh;rw [h.has]
theorem PlD.Same.ok (h:p.Same q) (ho:PlOk E q):PlOk E p:=⟨by rw [h.s,h.l];exact ho.nd,by rw [h.s,h.l];exact ho.lt,by rw [h.b,h.s];exact ho.bl,by rw [h.k,h.s];exact ho.ll,by rw [h.pl,h.l];exact ho.pl⟩
theorem PlD.Same.top (h:p.Same q) (ht:TopOk q):TopOk p:=by unfold TopOk;rw [h.s,h.l,h.pl,h.b,h.t];exact ht
theorem PlD.Same.popped (h:p.Same q):p.popped.Same q.popped:=⟨h.s,h.b,h.k,h.l,by simp only [PlD.popped,h.pl],h.t⟩
theorem PlD.Same.meet (h:p.Same q) (a c:Bool) (v:Int×Int):(meetP E a p v).Same (meetP E c q v):=by
 unfold meetP
 rw [h.fresh]
 split
 ·split
  ·exact ⟨h.s,h.b,h.k,by simp only [PlD.addL,h.l],by simp only [PlD.addL,h.pl],h.t⟩
  ·exact ⟨by simp only [PlD.addS,h.s],by simp only [PlD.addS,h.b,h.t],by simp only [PlD.addS,List.length_append,h.k,List.length_singleton],h.l,h.pl,by simp only [PlD.addS,h.t]⟩
 ·exact h
theorem PlD.Same.new_ (h:p.Same q) (v:Int×Int):newP E p v=newP E q v:=by unfold newP;rw [h.fresh]
theorem PlD.Same.deep (a c:Bool):∀(f:Nat) {p q:PlD} (l:List (Int×Int)),p.Same q→(deepP E a f p l).Same (deepP E c f q l)
 | 0,_,_,_,h=>h
 | f+1,p,q,l,h=>by
  rw [bu,bu]
  induction l generalizing p q with
  | nil=>exact h
  | cons v l ih=>
   rw [List.foldl_cons,List.foldl_cons]
   refine ih _ _ ?_
   unfold oneP
   rw [h.new_]
   split
   ·exact PlD.Same.deep a c f _ (h.meet a c v)
   ·exact h.meet a c v
def PlD.all (p:PlD):Prop:=∀b∈p.lk,b=true
theorem PlD.all.meet (h:p.all) (v:Int×Int):(meetP E true p v).all:=by
 unfold meetP
 split
 ·split
  ·exact h
  ·intro b hb
   rcases List.mem_append.1 hb with hb | hb
   ·exact h b hb
   ·exact List.mem_singleton.1 hb
 ·exact h
theorem PlD.all.deep:∀(f:Nat) {p:PlD} (l:List (Int×Int)),p.all→(deepP E true f p l).all
 | 0,_,_,h=>h
 | f+1,p,l,h=>by
  rw [bu]
  induction l generalizing p with
  | nil=>exact h
  | cons v l ih=>
   rw [List.foldl_cons]
   refine ih _ ?_
   unfold oneP
   split
   ·exact PlD.all.deep f _ (h.meet v)
   ·exact h.meet v
theorem PlD.all.next (h:p.all):cB E 1 p=none:=by
 unfold cB
 rw [if_neg dM]
 refine iH fun i hi=> ?_
 unfold fU
 have:p.lk.getD i true=true:=by
  rcases Nat.lt_or_ge i p.lk.length with hl | hl
  ·exact h _ (aF hl)
  ·simp [hl]
 rw [this];rfl
end
def gp (V0:World) (G:GraphD) (lim blk b:Nat) (R:PlD) (f:Nat) (i ok:Value) (w:World):Prop:=
 ∃p q,q.Same p∧PlInv (envG G lim blk) G.rs p∧TopOk p∧p.all∧eG (envG G lim blk) p < f∧runP (envG G lim blk) 1 f p=R∧
  (match p.pile.getLast? with
  | none=>ok= .bool false∧PP V0 G lim blk b 0 q w
  | some k=>i= .int .i64 (k:Nat)∧ok= .bool true∧PP V0 G lim blk b 0 q.popped w)
section
variable {V0 : World} {G : GraphD} {lim blk b : Nat} {V : World}
theorem jM {R:PlD} {f:Nat} {i:Int} {ok:Bool} {p q:PlD} {w:World} (h:q.Same p) (hi:PlInv (envG G lim blk) G.rs p) (ht:TopOk p) (ha:p.all) (hl:eG (envG G lim blk) p < f) (hr:runP (envG G lim blk) 1 f p=R)
  (hm:match q.pile.getLast? with
   | none=>Ending.returned (.tuple #[.int .i64 i,.bool ok])= .returned (.tuple #[.int .i64 0,.bool false])∧PP V0 G lim blk b 0 q w
   | some k=>Ending.returned (.tuple #[.int .i64 i,.bool ok])= .returned (.tuple #[.int .i64 (k:Nat),.bool true])∧PP V0 G lim blk b 0 q.popped w):gp V0 G lim blk b R f (.int .i64 i) (.bool ok) w:=by
 refine ⟨p,q,h,hi,ht,ha,hl,hr,?_⟩
 rw [←h.pl]
 cases hq:q.pile.getLast? with
 | none=>
  rw [hq]at hm
  obtain ⟨e,hp⟩:=hm
  injection e with e
  injection e with e
  simp only [Array.mk.injEq,List.cons.injEq,and_true]at e
  exact ⟨e.2,hp⟩
 | some k=>
  rw [hq]at hm
  obtain ⟨e,hp⟩:=hm
  injection e with e
  injection e with e
  simp only [Array.mk.injEq,List.cons.injEq,and_true]at e
  exact ⟨e.1,e.2,hp⟩
theorem vD (h:PP V0 G lim blk b 0 PlD.new V) (hV:GraphAt V0 G) (hG:RchG G lim blk):
  Calls Tryz.prog 194 #[.pointer (some ⟨b,0,none⟩)] V fun e w'=>∃q,e= .returned (.tuple #[])∧q.Same (planP (envG G lim blk) 1 G.rs)∧PP V0 G lim blk b 0 q w':=by
 have HVG:=zH hV
 have HG:=zH hG
 have HH:=zH h
 have hnv:=jB (o:=1) (roots:=G.rs) hG.env (by rw [aX];have:=hG.pg.roots;simpa using this)
 have hVR:bF G.ns.length G.rs:=by have:=hG.pg.roots;simpa using this
 have htv:=AZ (o:=1) (p:=PlD.new) hG ⟨by simp [PlD.new],by simp [PlD.new],by simp [PlD.new]⟩ (l:=G.rs) hVR
 have elk:∀p l,lookP (envG G lim blk) 1 p l=deepP (envG G lim blk) true ((envG G lim blk).n+1) p l:=fun p l=>by unfold lookP;rw [if_pos rfl]
 have ELK:=zH elk
 have HNV:=zH hnv
 have HT:=zH htv
 have HRL:Hid (G.rs.length≤4096):=zH (by have:=hG.r;omega)
 have HVR:=zH hVR
 obtain ⟨sv,bv,kv,lv,pv,mv,mp,nm,f,Y,fi,hq⟩:=h
 have k1:=(aB hq.cel).1
 clear hq hnv htv elk hV hG hVR
 go_enter Tryz.func194,Tryz.ntmps194
 go_wp2_with fail
 refine (nf PlD.new G.rs G.rA G.rcap HH.out oM HVG.out HVG.out.roots HRL.out HVR.out PlOk.new ⟨by simp [PlD.new],by simp [PlD.new],by simp [PlD.new]⟩ HG.out).mono ?_
 rintro e w1 ⟨rfl,hr⟩
 have HR:=zH hr
 have HSM:Hid (PlD.Same (deepP (envG G lim blk) false ((envG G lim blk).n+1) PlD.new G.rs) (lookP (envG G lim blk) 1 PlD.new G.rs)):=zH (by rw [ELK.out];exact PlD.Same.deep _ _ _ _ (PlD.Same.refl _))
 have HAL:Hid ((lookP (envG G lim blk) 1 PlD.new G.rs).all):=zH (by rw [ELK.out];exact PlD.all.deep _ _ (by intro b hb;cases hb))
 clear hr HH k1
 have HPR:Hid (runP (envG G lim blk) 1 ((envG G lim blk).n+1) (lookP (envG G lim blk) 1 PlD.new G.rs)=planP (envG G lim blk) 1 G.rs):=zH rfl
 generalize hPR:planP (envG G lim blk) 1 G.rs=R at*
 have HPQ:=zH hPR
 clear hPR
 generalize lookP (envG G lim blk) 1 PlD.new G.rs=p0 at*
 generalize deepP (envG G lim blk) false ((envG G lim blk).n+1) PlD.new G.rs=q0 at*
 have HPL:Hid (q0.pile.length≤1000):=zH (by
  have h1:=HT.out.2.1
  have h2:=HNV.out.1.ok.met_le
  have h3:=HG.out.n
  rw [aX]at h2
  unfold PlD.met at h2
  rw [HSM.out.pl]
  omega)
 go_wp2_with fail
 refine (mM q0 HR.out HPL.out).mono ?_
 rintro e w2 ⟨hm, -⟩
 have hD:∃i ok,e= .returned (.tuple #[.int .i64 i,.bool ok])∧gp V0 G lim blk b R ((envG G lim blk).n+1) (.int .i64 i) (.bool ok) w2:=by
  cases hq:q0.pile.getLast? with
  | none=>
   rw [hq]at hm
   exact ⟨0,false,hm.1,jM HSM.out HNV.out.1 HT.out HAL.out HNV.out.2 HPR.out (by rw [hq];exact ⟨rfl,hm.2⟩)⟩
  | some k=>
   rw [hq]at hm
   exact ⟨k,true,hm.1,jM HSM.out HNV.out.1 HT.out HAL.out HNV.out.2 HPR.out (by rw [hq];exact ⟨rfl,hm.2⟩)⟩
 obtain ⟨i0,ok0,rfl,hD⟩:=hD
 have HI:=zH hD
 clear hm hD HR HSM HAL HPR HPL HNV HT
 go_wp2_with fail
 go_loopw [2,3] (fun i ok wr=>∃f,Hid (gp V0 G lim blk b R f i ok wr)) (fun i ok wr=>leastN (fun f=>gp V0 G lim blk b R f i ok wr))
 case atStart=>exact ⟨_,HI⟩
 case round=>
  obtain ⟨f0,hf0⟩:=hrel
  obtain ⟨hI,hmin⟩:=cH (P:=fun f=>gp V0 G lim blk b R f u2 u3 wr) ⟨f0,hf0.out⟩
  have HLS:Hid (∀(i ok:Value) (w':World) (g:Nat),gp V0 G lim blk b R g i ok w'→g < leastN (fun f=>gp V0 G lim blk b R f u2 u3 wr)→leastN (fun f=>gp V0 G lim blk b R f i ok w') < leastN (fun f=>gp V0 G lim blk b R f u2 u3 wr)):=zH (fun i ok w' g hg hlt=>Nat.lt_of_le_of_lt ((cH (P:=fun f=>gp V0 G lim blk b R f i ok w') ⟨g,hg⟩).2 g hg) hlt)
  generalize hM:leastN (fun f=>gp V0 G lim blk b R f u2 u3 wr)=f at*
  obtain ⟨p,q,hsm,hi,ht,ha,hlf,hrun,hm⟩:=hI
  have HSM:=zH hsm
  have HIV:=zH hi
  have HTP:=zH ht
  have HAL:=zH ha
  have HLF:=zH hlf
  cases hpl:p.pile.getLast? with
  | none=>
   rw [hpl]at hm
   obtain ⟨rfl,hp⟩:=hm
   have HRE:Hid (p=R):=zH (by
    obtain ⟨g,rfl⟩:∃g,f=g+1:=⟨f - 1,by omega⟩
    rw [runP]at hrun
    have hst:bp (envG G lim blk) 1 p=none:=by unfold bp;rw [ha.next,hpl]
    rw [hst]at hrun
    exact hrun)
   have HP:=zH hp
   clear hp hsm hi ht ha hlf hrun hpl hM hmin hf0 HI
   go_wp2_with fail
   go_returns
   refine ⟨q,rfl,?_,HP.out⟩
   rw [HPQ.out,←HRE.out]
   exact HSM.out
  | some x=>
   rw [hpl]at hm
   obtain ⟨rfl,rfl,hp⟩:=hm
   obtain ⟨r,rfl⟩:∃r,f=r+1:=⟨f - 1,by omega⟩
   have hpe:=dX hpl
   have hst:bp (envG G lim blk) 1 p=some (lookP (envG G lim blk) 1 p.popped ((envG G lim blk).fs x)):=by unfold bp;rw [ha.next,hpl]
   rw [runP,hst]at hrun
   simp only at hrun
   obtain ⟨hq1,hq2⟩:=gA HG.out.env hi hst
   have hmem:x∈p.large:=hi.ok.pl x (by rw [hpe];simp)
   have hxl:x < G.ns.length:=by
    have:=hi.ok.lt _ (List.mem_append_right _ hmem)
    rwa [aX]at this
   have HFS:=zH (fT (lim:=lim) (blk:=blk) _ hxl)
   rw [HFS.out]at hrun hq1 hq2
   have HNV2:Hid (bF G.ns.length (G.ns.getD x default).fields):=zH (by
    have:=HG.out.env _ (by rw [aX];exact hxl)
    rw [aX,HFS.out]at this
    exact this)
   have HQ1:=zH hq1
   have HR2:=zH hrun
   have HNF:=zH (HG.out.f _ (aF (d:=default) hxl)).1
   have HNA:=zH (HVG.out.nodes.each _ (aF (d:=default) hxl))
   have hpt2:TopOk p.popped:=⟨ht.1,by have:=ht.2.1;simp only [PlD.popped,List.length_dropLast];omega,ht.2.2⟩
   have HPT2:=zH (hsm.popped.top hpt2)
   have HOK2:=zH (hsm.popped.ok hi.ok.popd)
   have HQT:=zH (AZ (o:=1) HG.out hpt2 HNV2.out)
   have HLE:Hid (eG (envG G lim blk) (lookP (envG G lim blk) 1 p.popped (G.ns.getD x default).fields) < r):=zH oM
   have HSM2:Hid (PlD.Same (deepP (envG G lim blk) false ((envG G lim blk).n+1) q.popped (G.ns.getD x default).fields) (lookP (envG G lim blk) 1 p.popped (G.ns.getD x default).fields)):=zH (by rw [ELK.out];exact PlD.Same.deep _ _ _ _ hsm.popped)
   have HAL2:Hid ((lookP (envG G lim blk) 1 p.popped (G.ns.getD x default).fields).all):=zH (by rw [ELK.out];exact PlD.all.deep _ _ ha)
   obtain ⟨nb,noff,hA,hcn⟩:=HVG.out.nodes.row.get oM
   obtain ⟨d0,d1',d2⟩:=ah hcn hxl
   have HP:=zH hp
   have m5:=hp.ext.cell d1'
   obtain ⟨sv,bv,kv,lv,pv,mv,mp,nm,f,Y,fi,hq⟩:=hp
   have m4:=(aB hq.cel).1
   rw [hA]at m4
   have HM:=zH hM
   have jx0:(0:Int)≤(x:Int):=by omega
   have jx1:(x:Int) < (G.ns.length:Int):=by omega
   clear hA hpe hst hrun hq1 hq2 hmem hxl hcn d0 d1' d2 hq hsm hi ht ha hlf hpt2 hpl hM hmin hf0 HI
   generalize G.ns.getD x default=y at*
   go_wp2_with fail
   refine (nf q.popped y.fields y.fA y.fcap HP.out oM HVG.out HNA.out.fields HNF.out HNV2.out HOK2.out HPT2.out HG.out).mono ?_
   rintro e w5 ⟨rfl,hr⟩
   have HR:=zH hr
   clear hr HP m4 m5
   generalize lookP (envG G lim blk) 1 p.popped y.fields=p2 at*
   generalize deepP (envG G lim blk) false ((envG G lim blk).n+1) q.popped y.fields=q2 at*
   have HPL:Hid (q2.pile.length≤1000):=zH (by
    have h1:=HQT.out.2.1
    have h2:=HQ1.out.ok.met_le
    have h3:=HG.out.n
    rw [aX]at h2
    unfold PlD.met at h2
    rw [HSM2.out.pl]
    omega)
   go_wp2_with fail
   refine (mM q2 HR.out HPL.out).mono ?_
   rintro e w6 ⟨hm, -⟩
   have hD:∃i ok,e= .returned (.tuple #[.int .i64 i,.bool ok])∧gp V0 G lim blk b R r (.int .i64 i) (.bool ok) w6:=by
    cases hq:q2.pile.getLast? with
    | none=>
     rw [hq]at hm
     exact ⟨0,false,hm.1,jM HSM2.out HQ1.out HQT.out HAL2.out HLE.out HR2.out (by rw [hq];exact ⟨rfl,hm.2⟩)⟩
    | some k=>
     rw [hq]at hm
     exact ⟨k,true,hm.1,jM HSM2.out HQ1.out HQT.out HAL2.out HLE.out HR2.out (by rw [hq];exact ⟨rfl,hm.2⟩)⟩
   obtain ⟨i2,ok2,rfl,hD⟩:=hD
   have HI:=zH hD
   have HLL:=zH (HLS.out _ _ _ _ HI.out oM)
   clear hm hD HR HSM2 HAL2 HR2 HPL HQT HQ1
   go_wp2_with fail
   go_roundw
   case rel=>exact ⟨r,HI⟩
   case measure=>exact Nat.lt_of_lt_of_eq HLL.out HM.out.symm
end
section
variable {V0 : World} {G : GraphD} {lim blk b : Nat} {V : World}
theorem pF (hG:RchG G lim blk):xQ V0 G lim blk b 0 193 #[.pointer (some ⟨b,0,none⟩)]:=fun p K W hp _ ho _=>
 (rB p hp ho hG).mono fun e w' h=>by
  obtain ⟨i,ok,he,hn,h1,h2⟩:=h
  exact ⟨i,ok,he,hn,h1.mono oM,h2⟩
theorem s6 (hG:RchG G lim blk):xQ V0 G lim blk b 2 195 #[.pointer (some ⟨b,0,none⟩)]:=fun p K W hp hK ho ht=>by
 by_cases hs:p.small= []
 ·exact sY p hp hs
 ·exact sZ p hp hK hs ho ht hG
theorem xU (o:Nat) (ho:o≤2) (h:PP V0 G lim blk b 0 PlD.new V) (hV:GraphAt V0 G) (hG:RchG G lim blk):
  Calls Tryz.prog 158 #[.pointer (some ⟨b,0,none⟩),.int .i64 o] V fun e w'=>∃q,e= .returned (.tuple #[])∧q.Same (planP (envG G lim blk) o G.rs)∧PP V0 G lim blk b 1001 q w':=by
 have H:=zH h
 have HVG:=zH hV
 have HG:=zH hG
 clear h hV hG
 obtain rfl | rfl | rfl:o=0∨o=1∨o=2:=by omega
 ·clear ho
  go_enter Tryz.func158,Tryz.ntmps158
  go_wp2_with fail
  refine (na 193 #[.pointer (some ⟨b,0,none⟩)] 0 dM (fun _ _=>rfl) (pF HG.out) H.out HVG.out HG.out).mono ?_
  rintro e w1 ⟨rfl,hp⟩
  have HP:=zH hp
  clear hp H
  go_wp2_with fail
  go_returns
  exact ⟨_,rfl,PlD.Same.refl _,HP.out⟩
 ·clear ho
  go_enter Tryz.func158,Tryz.ntmps158
  go_wp2_with fail
  refine (vD H.out HVG.out HG.out).mono ?_
  rintro e w1 ⟨q,rfl,hs,hp⟩
  have HP:=zH hp
  have HS:=zH hs
  clear hp H hs
  go_wp2_with fail
  go_returns
  exact ⟨_,rfl,HS.out,HP.out.mono oM⟩
 ·clear ho
  go_enter Tryz.func158,Tryz.ntmps158
  go_wp2_with fail
  refine (na 195 #[.pointer (some ⟨b,0,none⟩)] 2 dM (fun _ _=>rfl) (s6 HG.out) H.out HVG.out HG.out).mono ?_
  rintro e w1 ⟨rfl,hp⟩
  have HP:=zH hp
  clear hp H
  go_wp2_with fail
  go_returns
  exact ⟨_,rfl,PlD.Same.refl _,HP.out⟩
end
theorem ng (G:GraphD) (b:Bool) (hb:aV G=b) (V:World) (hG:GraphAt V G) (oG:GOk G):Calls Tryz.prog 33 #[.agg #[.slice G.nA G.ns.length G.ncap,.slice G.rA G.rs.length G.rcap]] V fun e w'=>e= .returned (.bool b)∧Ext V w':=by
 subst hb
 exact lj G V hG oG.bd.1 oG.bd.2.1 oG.bd.2.2
theorem xV (G:GraphD) (lim ord blk:Int) (V:World) (hG:GraphAt V G) (oG:GOk G) (hl: -9223372036854775808≤lim∧lim≤9223372036854775807) (hb: -9223372036854775808≤blk∧blk≤9223372036854775807):
  Calls Tryz.prog 123 #[.agg #[.slice G.nA G.ns.length G.ncap,.slice G.rA G.rs.length G.rcap],.int .i64 lim,.int .i64 ord,.int .i64 blk] V (qg V (planS G lim ord blk) (planL G lim ord blk) (ap G lim ord blk)):=by
 have hx0:=(AD V).alloc (.cells #[.slice G.nA G.ns.length G.ncap,.slice G.rA G.rs.length G.rcap] 27)
 have hBx:=aG V #[.slice G.nA G.ns.length G.ncap,.slice G.rA G.rs.length G.rcap] 27 _ rfl
 have HX:=zH hx0
 have HVG:=zH (hG.ext hx0)
 have kB:=(aB hBx.here).1
 cases hR:aV G with
 | false=>
  have HRI:=zH (fun W hW=>ng G false hR W hW oG)
  have he:ap G lim ord blk=4:=by simp [ap,hR]
  have HS:Hid (planS G lim ord blk= []):=zH (by rw [planS,he];rfl)
  have HL:Hid (planL G lim ord blk= []):=zH (by rw [planL,he];rfl)
  have HE:=zH he
  clear hx0 hG hR oG he
  go_enter Tryz.func123,Tryz.ntmps123
  go_wp2_with fail
  refine (HRI.out _ HVG.out).mono ?_
  rintro e w1 ⟨rfl,hx⟩
  replace HX:=zH (HX.out.trans hx)
  clear hx kB
  go_wp2_with fail
  ((try simp only [Exit.inBlock,Exit.then]);refine bodyPost_ret (v:= .tuple #[.slice none 0 0,.slice none 0 0,.int .i64 4]) (by simp only [results,Tryz.results123];go_simp) rfl ?_)
  rw [HE.out]
  exact gk HS.out HL.out HX.out
 | true=>
 have HRI:=zH (fun W hW=>ng G true hR W hW oG)
 cases hA:argB lim ord blk with
 | true=>
  have he:ap G lim ord blk=1:=by simp [ap,hR,hA]
  have HS:Hid (planS G lim ord blk= []):=zH (by rw [planS,he];rfl)
  have HL:Hid (planL G lim ord blk= []):=zH (by rw [planL,he];rfl)
  have HE:=zH he
  have c1:∀x y:Int,x < y→decide (x < y)=true:=fun x y h=>by simpa using h
  have c0:∀x y:Int,y≤x→decide (x < y)=false:=fun x y h=>by simpa using h
  have hc:(decide (lim < 1)=true)∨(decide (lim < 1)=false∧decide (blk < 1)=true)∨(decide (lim < 1)=false∧decide (blk < 1)=false∧decide (ord < 0)=true)∨(decide (lim < 1)=false∧decide (blk < 1)=false∧decide (ord < 0)=false∧decide (2 < ord)=true):=by
   rcases qh hA with h | ⟨h1,h⟩ | ⟨h1,h2,h⟩ | ⟨h1,h2,h3,h⟩
   ·exact .inl (c1 _ _ h)
   ·exact .inr (.inl ⟨c0 _ _ h1,c1 _ _ h⟩)
   ·exact .inr (.inr (.inl ⟨c0 _ _ h1,c0 _ _ h2,c1 _ _ h⟩))
   ·exact .inr (.inr (.inr ⟨c0 _ _ h1,c0 _ _ h2,c0 _ _ h3,c1 _ _ h⟩))
  clear hx0 hG hR oG he hA c0 c1
  rcases hc with h | ⟨h1,h⟩ | ⟨h1,h2,h⟩ | ⟨h1,h2,h3,h⟩
  all_goals
   go_enter Tryz.func123,Tryz.ntmps123
   go_wp2_with fail
   refine (HRI.out _ HVG.out).mono ?_
   rintro e w1 ⟨rfl,hx⟩
   replace HX:=zH (HX.out.trans hx)
   clear hx kB
   go_wp2_with fail
   ((try simp only [Exit.inBlock,Exit.then]);refine bodyPost_ret (v:= .tuple #[.slice none 0 0,.slice none 0 0,.int .i64 1]) (by simp only [results,Tryz.results123];go_simp) rfl ?_)
   rw [HE.out]
   exact gk HS.out HL.out HX.out
 | false=>
  have he:ap G lim ord blk=0:=by simp [ap,hR,hA]
  obtain ⟨a1,a2,a3,a4⟩:=kQ hA
  have hRG:=RchG.of oG.1 oG.2 hR ⟨a1,hl.2⟩ ⟨a2,hb.2⟩
  have HNEW:=zH (fun W (hW:GraphAt W G)=>qo hW hRG)
  have HRUN:=zH (fun V0 b W (hW:GraphAt V0 G) (h:PP V0 G lim.toNat blk.toNat b 0 PlD.new W)=>xU ord.toNat oM h hW hRG)
  simp only [Int.toNat_of_nonneg a3]at HRUN
  simp only [Int.toNat_of_nonneg (Int.le_trans dM a1),Int.toNat_of_nonneg (Int.le_trans dM a2)]at HNEW
  have HS:Hid (planS G lim ord blk=ordZ (planD G lim ord blk).small):=zH (by rw [planS,if_pos he])
  have HL:Hid (planL G lim ord blk=ordZ (planD G lim ord blk).large):=zH (by rw [planL,if_pos he])
  have HE:=zH he
  have d1:decide (lim < 1)=false:=by simpa using a1
  have d2:decide (blk < 1)=false:=by simpa using a2
  have d3:decide (ord < 0)=false:=by simpa using a3
  have d4:decide (2 < ord)=false:=by simpa using a4
  clear hx0 hG hR oG he hA hRG a1 a2 a3 a4
  change Hid (∀(V0:World) (b:Nat) (W:World),GraphAt V0 G→PP V0 G lim.toNat blk.toNat b 0 PlD.new W→Calls Tryz.prog 158 #[.pointer (some ⟨b,0,none⟩),.int .i64 ord] W fun e w'=>∃q,e= .returned (.tuple #[])∧q.Same (planD G lim ord blk)∧PP V0 G lim.toNat blk.toNat b 1001 q w')at HRUN
  generalize planD G lim ord blk=p at*
  go_enter Tryz.func123,Tryz.ntmps123
  go_wp2_with fail
  refine (HRI.out _ HVG.out).mono ?_
  rintro e w1 ⟨rfl,hx⟩
  replace HX:=zH (HX.out.trans hx)
  replace HVG:=zH (HVG.out.ext hx)
  have kB2:=(aB (hBx.re hx).here).1
  clear hx kB
  go_wp2_with fail
  refine (HNEW.out _ HVG.out).mono ?_
  rintro e w2 ⟨b,rfl,hp2⟩
  have HP2:=zH hp2
  clear hp2 kB2
  go_wp2_with fail
  refine (HRUN.out _ _ _ HVG.out HP2.out).mono ?_
  rintro e w3 ⟨q,rfl,hsm,hp3⟩
  have HSM:=zH hsm
  obtain ⟨sv,bv,kv,lv,pv,mv,mp,nm,f,Y,fi,hq⟩:=hp3
  obtain ⟨sA,sc,rfl, -⟩:=hq.pr.os.form aO dM
  obtain ⟨lA,lc,rfl, -⟩:=hq.pr.ol.form aO dM
  rw [aN]at hq
  rw [aN]at hq
  have HQ:=zH hq
  have hs0:Ext w3 w3:=AD _
  have l1:=(aP hq.cel).cells
  clear hq hsm HP2
  go_wp2_with fail
  (refine aC (W:=w3) kR kR aS ?_;(repeat (go_big_quiet_step (fail)));refine wpQuiet_nil ?_;intro w1 hx)
  go_wp2_with fail
  ((try simp only [Exit.inBlock,Exit.then]);refine bodyPost_ret (v:= .tuple #[.slice sA q.small.length sc,.slice lA q.large.length lc,.int .i64 0]) (by simp only [results,Tryz.results123];go_simp) rfl ?_)
  have hq:=HQ.out.grow hx
  rw [HE.out,HS.out,HL.out,←HSM.out.s,←HSM.out.l]
  refine ⟨sA,sc,lA,lc,by rw [aN,aN],?_,?_,?_,HX.out.trans hq.pr.ext⟩
  ·rw [aN];exact hq.pr.os.mono HX.out.size
  ·rw [aN];exact hq.pr.ol.mono HX.out.size
  ·rw [aN,aN]
   cases e:(Value.slice sA q.small.length sc).ownBlock with
   | none=>exact .inl rfl
   | some g=>exact .inr (fun e2=>hq.pr.sep.ne 0 3 rfl rfl dM |>.elim (fun h=>by rw [e]at h;cases h) (fun h=>h (by rw [e,e2])))
end Go.Proofs.YtphpppjfogpohaaGreat
