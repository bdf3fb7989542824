/- Merged by program (merge.py) out of: Flu, CnA, CnB, Flv. -/
import Derived.Test.YtphpppjfogpohaaGreatMy0
import Derived.Laws.OwnMore
import Derived.Test.YtphpppjfogpohaaGreatMy49
import Derived.Test.YtphpppjfogpohaaGreatMy32
import Derived.Test.YtphpppjfogpohaaGreatMy36
import Derived.Test.YtphpppjfogpohaaGreatMy35
import Derived.Test.YtphpppjfogpohaaGreatMy38
import Derived.Test.YtphpppjfogpohaaGreatMy4
set_option linter.unusedSimpArgs false
set_option linter.unusedVariables false
set_option maxRecDepth 100000
set_option maxHeartbeats 16000000
namespace Go.Proofs.YtphpppjfogpohaaGreat
open Go.RowKit Go.Shelf
section
variable {α : Type} {e : TypeId} {n bytes : Nat} {f : α → List Value} {w : World} {B B2 : Nat} {v u : Value} {xs ys : List α} {P : Program}
theorem rE {o:Oper} {a:Act} {K:Act→World→Prop} {Q:Exit→Act→World→Prop} (s x:Operand) (t:TypeId)
  (ho:o.op= .call {callee:= .builtin .append,args:= #[s,x],argTypes:= #[t,t]}) (hI:Info P t e n bytes) (hf:Cells n f)
  (hs:a.eval s=v) (hown:Own e n f w B v xs) (hx:a.eval x=u) (hown2:Own e n f w B2 u ys) (r:Nat) (hk:xs.length+ys.length=r)
  (hlen:r*bytes≤140737488355328) (h63:r≤maxLen) (hB:B≤w.heap.size)
  (h:∀A cap w',Own e n f w' B (.slice A r cap) (xs++ys)→w.grownBy w' v.ownBlock→
   ((Value.slice A r cap).ownBlock=v.ownBlock∨(Value.slice A r cap).ownBlock=some w.heap.size)→
   K (a.put o.dst (.slice A r cap)) w'):o.wp P a w K Q:=by
 obtain ⟨A2,cap2,rfl,hr,hA2, -⟩:=hown2.form hf hI.pos
 cases A2 with
 | some ad=>exact fZ s x t ho hI hf hs hown ad cap2 ys r _ hk rfl hx hr hlen h63 hB h
 | none=>
  have hys:ys= []:=by
   obtain ⟨b,off,hA,_⟩:=hr
   cases ys with
   | nil=>rfl
   | cons y ys=>exact absurd (hA sM) sM
  subst hys
  obtain rfl:=hA2 rfl
  obtain ⟨A0,cap0,rfl,_⟩:=hown.form hf hI.pos
  simp only [List.length_nil,Nat.add_zero]at hk
  subst hk
  obtain ⟨i,z,hi,_⟩:=hI.inf
  have hrun:=run_append_owned_none (P:=P) (w:=w) B t o.type e i n hI.und hi _ xs.length _ hown
  unfold Oper.wp
  simp [execOp,ho,resolve,invoke,builtin,hs,hx,hrun,Result.andThen]
  exact h A0 cap0 w (by simpa using hown) (World.grownBy.refl _ _) (.inl rfl)
end
theorem nf (G:GraphD) (V:World) (hG:GraphAt V G) (oG:GOk G):Calls Tryz.prog 63 #[.agg #[.slice G.nA G.ns.length G.ncap,.slice G.rA G.rs.length G.rcap]] V (RetN V (canE G) (canV G) (canQ G)):=by
 have hx0:Ext V ((V.alloc (.cells #[.slice G.nA G.ns.length G.ncap,.slice G.rA G.rs.length G.rcap] 27)).alloc (.cells #[.slice none 0 0,.slice none 0 0] 27)):=((zo V).alloc _).alloc _
 have HBX:=zH ((aF V #[.slice G.nA G.ns.length G.ncap,.slice G.rA G.rs.length G.rcap] 27 _ rfl).re ((zo _).alloc (.cells #[.slice none 0 0,.slice none 0 0] 27)))
 have HRX:=zH (aF (V.alloc (.cells #[.slice G.nA G.ns.length G.ncap,.slice G.rA G.rs.length G.rcap] 27)) #[.slice none 0 0,.slice none 0 0] 27 (V.heap.size+1) sM)
 have HX:=zH hx0
 have HG:=zH (hG.ext hx0)
 have HOG:=zH oG
 have kB:=(aB (aF V #[.slice G.nA G.ns.length G.ncap,.slice G.rA G.rs.length G.rcap] 27 _ rfl).here).1
 have kA:=(aB HBX.out.here).1
 obtain ⟨p1,p2⟩:=yK G
 obtain ⟨e1,s1, -⟩:=sN oG 0
 have HVV:Hid (V.heap.size≤V.heap.size+1):=zH oM
 cases hR:aR G with
 | false=>
  have HB:Hid (∀W,GraphAt W G→Calls Tryz.prog 66 #[.agg #[.slice G.nA G.ns.length G.ncap,.slice G.rA G.rs.length G.rcap]] W (n9 W [] 4)):=zH (fun W h=>mN G [] 4 (by rw [s1,p2,tN,hR];rfl) (by rw [e1,p1,canE,hR];rfl) W h oG)
  have HC:Hid (canE G=4):=zH (by rw [canE,hR];rfl)
  have HV:Hid (canV G= []):=zH (by rw [canV,hR];rfl)
  have HQ:Hid (canQ G= []):=zH (by rw [canQ,hR];rfl)
  rw [HC.out]
  clear hx0 hG oG p1 p2 e1 s1 hR
  go_enter Tryz.func63,Tryz.ntmps63
  go_wp2_with fail
  refine (HB.out _ HG.out).mono ?_
  rintro e w1 ⟨A1,c1,rfl,h1,hx⟩
  replace HX:=zH (HX.out.trans hx)
  have kR:=(aB (HRX.out.at hx)).1
  have fR:=(aB (HRX.out.at hx)).2
  clear h1 hx kB kA HRX HBX
  go_wp2_with fail
  ((try simp only [Exit.inBlock,Exit.then]);refine bodyPost_ret (v:= .tuple #[.agg #[.slice none 0 0,.slice none 0 0],.int .i64 4]) (by simp only [results,Tryz.results63];go_simp) rfl ?_)
  exact nK HV.out HQ.out ((HX.out.setCell HVV.out _).setCell HVV.out _)
 | true=>
  have HO:=zH (gE oG hR)
  have HOL:=zH (wu oG hR)
  have HN:Hid (G.ns.length≤1000):=zH (by have:=oG.2.1;omega)
  have HB:Hid (∀W,GraphAt W G→Calls Tryz.prog 66 #[.agg #[.slice G.nA G.ns.length G.ncap,.slice G.rA G.rs.length G.rcap]] W (n9 W (ordZ (ordG G)) 0)):=zH (fun W h=>mN G (ordZ (ordG G)) 0 (by rw [s1,p2,tN,hR];rfl) (by rw [e1,p1,canE,hR];rfl) W h oG)
  have HC:Hid (canE G=0):=zH (by rw [canE,hR];rfl)
  have HV:Hid (canV G=renN G (ordZ (ordG G))):=zH (by rw [canV,hR,if_pos rfl,(qj hR (gE oG hR)).1])
  have HQ:Hid (canQ G=renR G (ordZ (ordG G))):=zH (by rw [canQ,hR,if_pos rfl,(qj hR (gE oG hR)).2])
  have HE:Hid (renE G (ordZ (ordG G))=0):=zH (qi hR (gE oG hR))
  have HBD:Hid (∀x∈ordZ (ordG G), -9223372036854775808≤x∧x≤9223372036854775807):=zH (fun x hx=>by
   obtain ⟨i,hi,rfl⟩:=qh.1 hx
   have:=HO.out.lt i hi
   rw [cX]at this
   have:=HN.out
   omega)
  have HSZ:Hid ((ordZ (ordG G)).length≤1000):=zH (by rw [aW];have:=HOL.out;have:=HN.out;omega)
  rw [HC.out]
  clear hx0 hG oG p1 p2 e1 s1 hR
  generalize ordZ (ordG G)=l at*
  go_enter Tryz.func63,Tryz.ntmps63
  go_wp2_with fail
  refine (HB.out _ HG.out).mono ?_
  rintro e w1 ⟨A1,c1,rfl,h1,hx⟩
  replace HX:=zH (HX.out.trans hx)
  replace HG:=zH (HG.out.ext hx)
  replace HBX:=zH (HBX.out.re hx)
  replace HRX:=zH (HRX.out.re hx)
  have HI:=zH (jI h1)
  have kA2:=(aB HBX.out.here).1
  clear h1 hx kB kA
  go_wp2_with fail
  clear kA2
  have Z:=yF G A1 c1 l w1 HG.out HOG.out.1 HI.out HSZ.out HBD.out
  rw [HE.out]at Z
  refine Z.mono ?_
  clear Z
  rintro e w2 ⟨H,rfl,g1,g2,g3,g4,g5,g6,g7,g8,hx⟩
  replace HX:=zH (HX.out.trans hx)
  have hr2:=HRX.out.at hx
  have kR:=(aB hr2).1
  have fR:=(aB hr2).2
  have hr3:=aL (i:=0) hr2 (.slice H.nA H.ns.length H.ncap)
  have HG1:=zH (g1.box hr2 sM sM 0 (.slice H.nA H.ns.length H.ncap))
  have HG2:=zH (HG1.out.box (s1:= .slice H.nA H.ns.length H.ncap) (s2:= .slice none 0 0) hr3 sM sM 1 (.slice H.rA H.rs.length H.rcap))
  have HF:=zH (show H.ns.map aX=canV G∧H.rs=canQ G from ⟨g2.trans HV.out.symm,g3.trans HQ.out.symm⟩)
  have HSH:=zH (show Shp H from ⟨g4,g5,g6,g7,g8⟩)
  clear g1 g2 g3 g4 g5 g6 g7 g8 hx hr2 hr3 HRX HBX HG1
  go_wp2_with fail
  ((try simp only [Exit.inBlock,Exit.then]);refine bodyPost_ret (v:= .tuple #[.agg #[.slice H.nA H.ns.length H.ncap,.slice H.rA H.rs.length H.rcap],.int .i64 0]) (by simp only [results,Tryz.results63];go_simp) rfl ?_)
  exact ⟨H,rfl,HG2.out,HF.out.1,HF.out.2,HSH.out.each,HSH.out.a,HSH.out.b,HSH.out.c,HSH.out.d,(HX.out.setCell HVV.out _).setCell HVV.out _⟩
theorem xO {G H:GraphD} (oG:GOk G) (hR:aR G=true) (h1:H.ns.map aX=canV G) (h2:H.rs=canQ G) (hs:Shp H):GOk H∧aR H=true:=
 uh oG hR (gE oG hR) (h1.trans (by rw [canV,if_pos hR])) (h2.trans (by rw [canQ,if_pos hR])) hs
theorem xP {A B H K:GraphD} (ra:aR A=true) (rb:aR B=true) (h1:H.ns.map aX=canV A) (h2:H.rs=canQ A) (h3:K.ns.map aX=canV B) (h4:K.rs=canQ B):nF H K=bX A B:=by
 unfold nF iT bX
 rw [h1,h2,h3,h4,ra,rb]
 rfl
theorem uy (A B:GraphD) (V:World) (hA:GraphAt V A) (hB:GraphAt V B) (oA:GOk A) (oB:GOk B):
  Calls Tryz.prog 20 #[.agg #[.slice A.nA A.ns.length A.ncap,.slice A.rA A.rs.length A.rcap],.agg #[.slice B.nA B.ns.length B.ncap,.slice B.rA B.rs.length B.rcap]] V fun e w'=>e= .returned (.bool (bX A B))∧Ext V w':=by
 have hx0:=((zo V).alloc (.cells #[.slice A.nA A.ns.length A.ncap,.slice A.rA A.rs.length A.rcap] 27)).alloc (.cells #[.slice B.nA B.ns.length B.ncap,.slice B.rA B.rs.length B.rcap] 27)
 have hba:=(aF V #[.slice A.nA A.ns.length A.ncap,.slice A.rA A.rs.length A.rcap] 27 _ rfl).re ((zo _).alloc (.cells #[.slice B.nA B.ns.length B.ncap,.slice B.rA B.rs.length B.rcap] 27))
 have hbb:=aF (V.alloc (.cells #[.slice A.nA A.ns.length A.ncap,.slice A.rA A.rs.length A.rcap] 27)) #[.slice B.nA B.ns.length B.ncap,.slice B.rA B.rs.length B.rcap] 27 (V.heap.size+1) sM
 have HX:=zH hx0
 have HA:=zH (hA.ext hx0)
 have HB:=zH (hB.ext hx0)
 have HBB:=zH hbb
 have HOA:=zH oA
 have HOB:=zH oB
 have ka:=(aB hba.here).1
 obtain ⟨ca,hca⟩:∃c,canE A=c:=⟨_,rfl⟩
 obtain ⟨cb,hcb⟩:∃c,canE B=c:=⟨_,rfl⟩
 obtain ⟨r,hr⟩:∃r,bX A B=r:=⟨_,rfl⟩
 have HCA:=zH hca
 have HCB:=zH hcb
 have HR:=zH hr
 rw [hr]
 clear hx0 hA hB oA oB hba hbb hca hcb hr
 go_enter Tryz.func20,Tryz.ntmps20
 go_wp2_with fail
 have Z:=nf A _ HA.out HOA.out
 rw [HCA.out]at Z
 refine Z.mono ?_
 clear Z
 rintro e w1 ⟨H,rfl,g1,g2,g3,g4,g5,g6,g7,g8,hx⟩
 replace HX:=zH (HX.out.trans hx)
 replace HB:=zH (HB.out.ext hx)
 replace HBB:=zH (HBB.out.re hx)
 have HG1:=zH g1
 have HF1:=zH (show H.ns.map aX=canV A∧H.rs=canQ A from ⟨g2,g3⟩)
 have HS1:=zH (show Shp H from ⟨g4,g5,g6,g7,g8⟩)
 have kb:=(aB HBB.out.here).1
 have hlb:=aA HBB.out.here
 clear g1 g2 g3 g4 g5 g6 g7 g8 hx ka
 go_wp2_with fail
 have hx2:=(zo w1).alloc (.cells #[.slice H.nA H.ns.length H.ncap,.slice H.rA H.rs.length H.rcap] 27)
 have HBH:=zH (aF w1 #[.slice H.nA H.ns.length H.ncap,.slice H.rA H.rs.length H.rcap] 27 _ rfl)
 replace HX:=zH (HX.out.trans hx2)
 replace HB:=zH (HB.out.ext hx2)
 replace HG1:=zH (HG1.out.ext hx2)
 clear kb hlb hx2 HBB
 generalize w1.alloc (.cells #[.slice H.nA H.ns.length H.ncap,.slice H.rA H.rs.length H.rcap] 27)=w2 at*
 generalize w1.heap.size=X at*
 have Z:=nf B _ HB.out HOB.out
 rw [HCB.out]at Z
 refine Z.mono ?_
 clear Z
 rintro e w3 ⟨K,rfl,g1,g2,g3,g4,g5,g6,g7,g8,hx⟩
 replace HX:=zH (HX.out.trans hx)
 replace HG1:=zH (HG1.out.ext hx)
 replace HBH:=zH (HBH.out.re hx)
 have HG2:=zH g1
 have HF2:=zH (show K.ns.map aX=canV B∧K.rs=canQ B from ⟨g2,g3⟩)
 have HS2:=zH (show Shp K from ⟨g4,g5,g6,g7,g8⟩)
 have kx:=(aB HBH.out.here).1
 have hlx:=aA HBH.out.here
 clear g1 g2 g3 g4 g5 g6 g7 g8 hx
 cases hra:aR A with
 | false=>
  have hr0:r=false:=by rw [←HR.out,bX,hra];rfl
  have hc4:ca=4:=by rw [←HCA.out,canE,hra];rfl
  subst hr0 hc4
  go_wp2_with fail
  go_returns
  exact ⟨rfl,HX.out.alloc _⟩
 | true=>
 have hc0:ca=0:=by rw [←HCA.out,canE,hra];rfl
 subst hc0
 cases hrb:aR B with
 | false=>
  have hr0:r=false:=by rw [←HR.out,bX,hrb,Bool.and_false];rfl
  have hc4:cb=4:=by rw [←HCB.out,canE,hrb];rfl
  subst hr0 hc4
  go_wp2_with fail
  go_returns
  exact ⟨rfl,HX.out.alloc _⟩
 | true=>
 have hc0:cb=0:=by rw [←HCB.out,canE,hrb];rfl
 subst hc0
 have HOH:=zH (xO HOA.out hra HF1.out.1 HF1.out.2 HS1.out).1
 have HOK:=zH (xO HOB.out hrb HF2.out.1 HF2.out.2 HS2.out).1
 have HSM:=zH ((xP hra hrb HF1.out.1 HF1.out.2 HF2.out.1 HF2.out.2).trans HR.out)
 have hx2:=(zo w3).alloc (.cells #[.slice K.nA K.ns.length K.ncap,.slice K.rA K.rs.length K.rcap] 27)
 replace HX:=zH (HX.out.trans hx2)
 replace HG1:=zH (HG1.out.ext hx2)
 replace HG2:=zH (HG2.out.ext hx2)
 clear hra hrb HR HCA HCB hx2
 go_wp2_with fail
 refine (yG H K r _ HSM.out HG1.out HG2.out HOH.out.1 HOK.out.1).mono ?_
 rintro e w4 ⟨rfl,hx⟩
 replace HX:=zH (HX.out.trans hx)
 clear hx kx hlx
 go_wp2_with fail
 go_returns
 exact ⟨rfl,HX.out⟩
theorem xQ (A B:GraphD) (r:Bool) (h:bX A B=r) (V:World) (hA:GraphAt V A) (hB:GraphAt V B) (oA:GOk A) (oB:GOk B):
  Calls Tryz.prog 20 #[.agg #[.slice A.nA A.ns.length A.ncap,.slice A.rA A.rs.length A.rcap],.agg #[.slice B.nA B.ns.length B.ncap,.slice B.rA B.rs.length B.rcap]] V fun e w'=>e= .returned (.bool r)∧Ext V w':=by
 subst h;exact uy A B V hA hB oA oB
def kJ (x:NodeD):Int:=x.fields.length
theorem yX (G:GraphD) (lim:Int) (x y f3 c:Int) (hx:addS gg G.ns (planS G lim 0 1)=x) (hy:addS gg G.ns (planL G lim 0 1)=y) (hf3:addS kJ G.ns (planS G lim 0 1++planL G lim 0 1)=f3) (hc:bi G lim 0 1=c) (V:World) (hG:GraphAt V G) (oG:GOk G) (hl: -9223372036854775808≤lim∧lim≤9223372036854775807):
  Calls Tryz.prog 73 #[.agg #[.slice G.nA G.ns.length G.ncap,.slice G.rA G.rs.length G.rcap],.int .i64 lim] V fun e w'=>e= .returned (.tuple #[.int .i64 x,.int .i64 y,.int .i64 f3,.int .i64 c])∧Ext V w':=by
 have hx0:=(zo V).alloc (.cells #[.slice G.nA G.ns.length G.ncap,.slice G.rA G.rs.length G.rcap] 27)
 have hBx:=aF V #[.slice G.nA G.ns.length G.ncap,.slice G.rA G.rs.length G.rcap] 27 _ rfl
 have HPL:=zH (tV G lim 0 1 _ _ c rfl rfl hc _ (hG.ext hx0) oG hl ⟨by decide,by decide⟩)
 have hle:=na oG (lim:=lim) (ord:=0) (blk:=1) hl ⟨by decide,by decide⟩
 have HLE:=zH hle
 have HN:=zH oG.bd.1
 have HXX:=zH hx
 have HYY:=zH hy
 have HF3:=zH hf3
 have HX:=zH hx0
 have HG:=zH (hG.ext hx0)
 have HG0:=zH hG
 have kB:=(aB hBx.here).1
 have HBX:=zH hBx
 have HZ:Hid (c≠0→x=0∧y=0∧f3=0):=zH (fun h=>by
  rw [←hc]at h
  have e1:planS G lim 0 1= []:=by unfold planS;rw [if_neg h]
  have e2:planL G lim 0 1= []:=by unfold planL;rw [if_neg h]
  rw [e1]at hx hf3
  rw [e2]at hy hf3
  exact ⟨hx.symm,hy.symm,hf3.symm⟩)
 clear hx0 hG oG hx hy hf3 hc hBx hle
 generalize planS G lim 0 1=S at*
 generalize planL G lim 0 1=L at*
 by_cases hc0:c=0
 rotate_left
 ·obtain ⟨rfl,rfl,rfl⟩:=HZ.out hc0
  have dc:(c==0)=false:=by simpa using hc0
  have dd:(!c==0)=true:=by rw [dc];rfl
  go_enter Tryz.func73,Tryz.ntmps73
  go_wp2_with fail
  refine HPL.out.mono ?_
  rintro e w1 ⟨A1,c1,A2,c2,rfl,h1,h2, -,hx⟩
  have HX1:=zH (HX.out.trans hx)
  clear h1 h2 hx kB HPL HBX
  go_wp2_with fail
  ((try simp only [Exit.inBlock,Exit.then]);refine bodyPost_ret (v:= .tuple #[.int .i64 0,.int .i64 0,.int .i64 0,.int .i64 c]) (by simp only [results,Tryz.results73];go_simp) rfl ?_)
  exact ⟨rfl,HX1.out⟩
 subst hc0
 go_enter Tryz.func73,Tryz.ntmps73
 go_wp2_with fail
 refine HPL.out.mono ?_
 rintro e w1 ⟨A1,c1,A2,c2,rfl,h1,h2,hne,hx⟩
 have H1:=zH (h1.mono HX.out.size)
 have H2:=zH (h2.mono HX.out.size)
 have HX1:=zH (HX.out.trans hx)
 have HG1:=zH (HG.out.ext hx)
 have HB1:=zH ((HBX.out.re hx).here)
 have HLS:Hid (S.length+L.length≤1000):=HLE
 clear h1 h2 hx kB HPL HBX hne HZ
 go_wp2_with fail
 have hyd:=(zo w1).drew
 have hGP:BoxK V.heap.size #[.slice G.nA G.ns.length G.ncap,.slice G.rA G.rs.length G.rcap] 27 w1.drew:=AB HB1.out hyd
 have gB:=hGP.cells
 (refine dI (w:=w1) (fun w'=>∃u:KeptOf (w1).drew (BoxK V.heap.size #[.slice G.nA G.ns.length G.ncap,.slice G.rA G.rs.length G.rcap] 27),w'=u.1) (.rd [0,1,3,4,6,7,8] (.one 2 (.one 5 (.one 9 (.one 10 .tl))))) [11,12,13,14] (by kernel_rfl) (by kernel_rfl) (by intro c a d v w h;first | exact h | (cases d <;>first | exact h | (cases h;done) | cases h.1.1 | cases h.1)) (ae hGP) ?_)
 (refine jZ ?_;(try simp only [aI,List.map_cons,List.map_nil,List.getD_cons_zero,List.getD_cons_succ]);(repeat (go_big_quiet_step (fail)));refine wpQuiet_nil ?_)
 replace H1:=zH (H1.out.ext hyd)
 replace H2:=zH (H2.out.ext hyd)
 replace HX1:=zH (HX1.out.trans hyd)
 replace HG1:=zH (HG1.out.ext hyd)
 replace HB1:=zH hGP
 clear hyd hGP gB
 generalize w1.drew=wN at*
 (refine cE gD rM ?_;intro K hK;go_simp)
 refine (qe G A1 c1 S x _ HXX.out HG1.out (jI H1.out) (by have:=HLE.out;omega) HN.out).mono ?_
 rintro e wa ⟨rfl,hxa⟩
 refine hK _ _ _ (fun _ h=>h) (ae (AB HB1.out hxa)) ?_
 clear hK K
 replace H1:=zH (H1.out.ext hxa)
 replace H2:=zH (H2.out.ext hxa)
 replace HX1:=zH (HX1.out.trans hxa)
 replace HG1:=zH (HG1.out.ext hxa)
 replace HB1:=zH (AB HB1.out hxa)
 clear hxa
 (refine cE gD rM ?_;intro K hK;go_simp)
 refine (qe G A2 c2 L y _ HYY.out HG1.out (jI H2.out) (by have:=HLE.out;omega) HN.out).mono ?_
 rintro e wb ⟨rfl,hxa⟩
 refine hK _ _ _ (fun _ h=>h) (ae (AB HB1.out hxa)) ?_
 clear hK K
 replace H1:=zH (H1.out.ext hxa)
 replace H2:=zH (H2.out.ext hxa)
 replace HX1:=zH (HX1.out.trans hxa)
 replace HG1:=zH (HG1.out.ext hxa)
 replace HB1:=zH (AB HB1.out hxa)
 clear hxa
 refine cE gD rM ?_
 intro K hK
 refine rE (.tmp 28) (.tmp 29) 38 rfl cd aP rM H1.out rM H2.out (S++L).length (by rw [List.length_append]) (by have:=HLE.out;rw [List.length_append];omega) (by have:=HLE.out;rw [List.length_append];simp [maxLen];omega) HX1.out.size ?_
 intro A3 c3 wc ho hg ht
 refine hK _ _ _ (fun _ h=>h) (ae (eT H1.out HB1.out hg dM)) ?_
 clear hK K
 have H3:=zH ho
 have HX3:=zH (H1.out.grown hg (Nat.le_refl _) HX1.out)
 have HG3:Hid (GraphAt wc G):=zH (HG0.out.ext HX3.out)
 have HB3:=zH (eT H1.out HB1.out hg dM)
 clear ho hg ht H1 H2 HG1 HB1 HX1
 (refine cE gD rM ?_;intro K hK;go_simp)
 have Z:=sK G A3 c3 (S++L) f3 _ HF3.out HG3.out (jI H3.out) (by have:=HLE.out;rw [List.length_append];omega) HN.out
 rw [List.length_append]at Z
 refine Z.mono ?_
 rintro e wd ⟨rfl,hxa⟩
 refine hK _ _ _ (fun _ h=>h) (ae (AB HB3.out hxa)) ?_
 clear hK K Z
 have HX4:=zH (HX3.out.trans hxa)
 clear hxa
 (refine kW ?_;(try simp only [aI,List.map_cons,List.map_nil,List.getD_cons_zero,List.getD_cons_succ]))
 go_wp2_with fail
 ((try simp only [Exit.inBlock,Exit.then]);refine bodyPost_ret (v:= .tuple #[.int .i64 x,.int .i64 y,.int .i64 f3,.int .i64 0]) (by simp only [results,Tryz.results73];go_simp) rfl ?_)
 exact ⟨rfl,HX4.out⟩
end Go.Proofs.YtphpppjfogpohaaGreat
