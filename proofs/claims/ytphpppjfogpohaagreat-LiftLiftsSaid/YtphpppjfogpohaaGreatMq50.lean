/- Merged by program (merge.py) out of: Flu, CnA, CnB, Flv. -/
import Derived.Test.YtphpppjfogpohaaGreatMq0
import Derived.Laws.OwnMore
import Derived.Test.YtphpppjfogpohaaGreatMq49
import Derived.Test.YtphpppjfogpohaaGreatMq32
import Derived.Test.YtphpppjfogpohaaGreatMq36
import Derived.Test.YtphpppjfogpohaaGreatMq35
import Derived.Test.YtphpppjfogpohaaGreatMq38
import Derived.Test.YtphpppjfogpohaaGreatMq4
set_option linter.unusedSimpArgs false
set_option linter.unusedVariables false
set_option maxRecDepth 100000
set_option maxHeartbeats 16000000
namespace Go.Proofs.YtphpppjfogpohaaGreat
open Go.RowKit Go.Shelf
section
variable {α : Type} {e : TypeId} {n bytes : Nat} {f : α → List Value} {w : World} {B B2 : Nat} {v u : Value} {xs ys : List α} {P : Program}
theorem rD {o:Oper} {a:Act} {K:Act→World→Prop} {Q:Exit→Act→World→Prop} (s x:Operand) (t:TypeId)
  (ho:o.op= .call {callee:= .builtin .append,args:= #[s,x],argTypes:= #[t,t]}) (hI:Info P t e n bytes) (hf:Cells n f)
  (hs:a.eval s=v) (hown:Own e n f w B v xs) (hx:a.eval x=u) (hown2:Own e n f w B2 u ys) (r:Nat) (hk:xs.length+ys.length=r)
  (hlen:r*bytes≤140737488355328) (h63:r≤maxLen) (hB:B≤w.heap.size)
  (h:∀A cap w',Own e n f w' B (.slice A r cap) (xs++ys)→w.grownBy w' v.ownBlock→
   ((Value.slice A r cap).ownBlock=v.ownBlock∨(Value.slice A r cap).ownBlock=some w.heap.size)→
   K (a.put o.dst (.slice A r cap)) w'):o.wp P a w K Q:=by
 obtain ⟨A2,cap2,rfl,hr,hA2, -⟩:=hown2.form hf hI.pos
 cases A2 with
 | some ad=>exact fZ s x t ho hI hf hs hown ad cap2 ys r _ hk rfl hx hr hlen h63 hB h
 | none=>
  have hys:ys= []:=by
   obtain ⟨b,off,hA,_⟩:=hr
   cases ys with
   | nil=>rfl
   | cons y ys=>exact absurd (hA sM) sM
  subst hys
  obtain rfl:=hA2 rfl
  obtain ⟨A0,cap0,rfl,_⟩:=hown.form hf hI.pos
  simp only [List.length_nil,Nat.add_zero]at hk
  subst hk
  obtain ⟨i,z,hi,_⟩:=hI.inf
  have hrun:=run_append_owned_none (P:=P) (w:=w) B t o.type e i n hI.und hi _ xs.length _ hown
  unfold Oper.wp
  simp [execOp,ho,resolve,invoke,builtin,hs,hx,hrun,Result.andThen]
  exact h A0 cap0 w (by simpa using hown) (World.grownBy.refl _ _) (.inl rfl)
end
theorem rE (G:GraphD) (S R:List Int) (c:Int) (hS:planS G 1000000 0 1=S) (hR:ordZ (cx G.ns.length S)=R) (hc:ap G 1000000 0 1=c) (V:World) (hG:GraphAt V G) (oG:GOk G):Calls Tryz.prog 74 #[.agg #[.slice G.nA G.ns.length G.ncap,.slice G.rA G.rs.length G.rcap]] V (ju V R c):=by
 have hx0:=(AD V).alloc (.cells #[.slice G.nA G.ns.length G.ncap,.slice G.rA G.rs.length G.rcap] 27)
 have hBx:=aG V #[.slice G.nA G.ns.length G.ncap,.slice G.rA G.rs.length G.rcap] 27 _ rfl
 have HPL:=zH (s7 G 0 S c hS hc _ (hG.ext hx0) oG)
 have HLE:Hid (S.length≤1000):=zH (by have:=iW oG (lim:=1000000) (ord:=0) (blk:=1) ⟨by decide,by decide⟩ ⟨by decide,by decide⟩;rw [hS]at this;omega)
 have HN:Hid (G.ns.length≤1000):=zH (by have:=oG.2.1;omega)
 have HR:=zH hR
 have HX:=zH hx0
 have kB:=(aB hBx.here).1
 have HBX:=zH hBx
 clear hx0 hG oG hS hc hR hBx
 go_enter Tryz.func74,Tryz.ntmps74
 go_wp2_with fail
 refine HPL.out.mono ?_
 rintro e w1 ⟨A1,c1,rfl,h1,hx⟩
 have H1:=zH (fJ h1)
 have HX1:=zH (HX.out.trans hx)
 have HB1:=zH (HBX.out.re hx)
 clear h1 hx kB HPL HBX
 obtain ⟨wa,rfl⟩:∃wa:World,wa=w1:=⟨_,rfl⟩
 go_wp2_with fail
 go_loopw [6,7] (fun o i wr=>∃(k:Nat) (A:Option Addr) (cap:Nat),k≤G.ns.length∧i= .int .i64 k∧o= .slice A (cx k S).length cap∧Hid (Own 3 1 intC wr wa.heap.size (.slice A (cx k S).length cap) (ordZ (cx k S)))∧Hid (Ext wa wr)) (fun o i _=>G.ns.length - (intOf i).toNat)
 case atStart=>exact ⟨0,none,0,by omega,rfl,rfl,zH (AM _ _ _ _ _),zH (AD _)⟩
 case round=>
  obtain ⟨k,A,cap,hk,rfl,rfl,HO,HXR⟩:=hrel
  have kB:=(aB (HB1.out.re HXR.out).here).1
  by_cases hlt:k < G.ns.length
  rotate_left
  ·obtain rfl:k=G.ns.length:=by omega
   go_wp2_with fail
   ((try simp only [Exit.inBlock,Exit.then]);refine bodyPost_ret (v:= .tuple #[.slice A (cx G.ns.length S).length cap,.int .i64 c]) (by simp only [results,Tryz.results74];go_simp) rfl ?_)
   rw [←HR.out]
   exact ⟨A,cap,by rw [aN],by rw [aN];exact HO.out.mono HX1.out.size,HX1.out.trans HXR.out⟩
  have HI:=zH (H1.out.ext HXR.out)
  go_wp2_with fail
  refine (tS A1 c1 S (k:Int) _ (by have:=HLE.out;omega) HI.out).mono ?_
  rintro e w2 ⟨rfl,hx2⟩
  have HX2:=zH (HXR.out.trans hx2)
  have HO2:=zH (HO.out.ext hx2)
  have HRS:=zH (sE k S)
  have HRL:=zH (uX k S)
  have HNN:Hid (k < 1000):=zH (by have:=HN.out;omega)
  have HSZ:=zH HX2.out.size
  have hk60:=HNN.out
  clear hx2 HI kB
  cases hin:decide ((k:Int)∈S)with
  | true=>
   have HRT:Hid (cx (k+1) S=cx k S++ [k]):=zH (by rw [HRS.out,hin];rfl)
   clear hin HRS
   have hlen:(cx k S).length≤1000:=by have:=HRL.out;have:=HNN.out;omega
   go_wp2_with (at_builtin;refine aH rfl (.tmp 23) (.tmp 25) 38 rfl bj aO rfl HO2.out [(k:Int)] 1 _ rfl ((cx k S).length+1) 1 (by rw [aN];rfl) rfl _ rfl (by first | rfl | simp) oM (by simp [maxLen];try omega) HSZ.out ?_;intro A4 cap4 w4 hown4 hgr4 hat4;have HX4:=zH ((HO2.out.ext ((AD _).alloc _)).grown hgr4 (Nat.le_refl _) (HX2.out.alloc _));have HO4:=zH hown4;clear hown4 hgr4 hat4)
   go_roundw
   case rel=>exact ⟨k+1,A4,cap4,by omega,by go_num,by rw [HRT.out];simp,zH (by have:=HO4.out;rw [HRT.out];simpa [ordZ]using this),HX4⟩
   case measure=>simp [intOf];omega
  | false=>
   have HRT:Hid (cx (k+1) S=cx k S):=zH (by rw [HRS.out,hin];simp)
   clear hin HRS
   go_wp2_with fail
   go_roundw
   case rel=>exact ⟨k+1,A,cap,by omega,by go_num,by rw [HRT.out],by rw [HRT.out];exact HO2,HX2⟩
   case measure=>simp [intOf];omega
theorem ni (G:GraphD) (V:World) (hG:GraphAt V G) (oG:GOk G):Calls Tryz.prog 63 #[.agg #[.slice G.nA G.ns.length G.ncap,.slice G.rA G.rs.length G.rcap]] V (RetN V (canE G) (canV G) (canQ G)):=by
 have hx0:Ext V ((V.alloc (.cells #[.slice G.nA G.ns.length G.ncap,.slice G.rA G.rs.length G.rcap] 27)).alloc (.cells #[.slice none 0 0,.slice none 0 0] 27)):=((AD V).alloc _).alloc _
 have HBX:=zH ((aG V #[.slice G.nA G.ns.length G.ncap,.slice G.rA G.rs.length G.rcap] 27 _ rfl).re ((AD _).alloc (.cells #[.slice none 0 0,.slice none 0 0] 27)))
 have HRX:=zH (aG (V.alloc (.cells #[.slice G.nA G.ns.length G.ncap,.slice G.rA G.rs.length G.rcap] 27)) #[.slice none 0 0,.slice none 0 0] 27 (V.heap.size+1) sM)
 have HX:=zH hx0
 have HG:=zH (hG.ext hx0)
 have HOG:=zH oG
 have kB:=(aB (aG V #[.slice G.nA G.ns.length G.ncap,.slice G.rA G.rs.length G.rcap] 27 _ rfl).here).1
 have kA:=(aB HBX.out.here).1
 obtain ⟨p1,p2⟩:=y4 G
 obtain ⟨e1,s1, -⟩:=iq oG 0
 have HVV:Hid (V.heap.size≤V.heap.size+1):=zH oM
 cases hR:aV G with
 | false=>
  have HB:Hid (∀W,GraphAt W G→Calls Tryz.prog 66 #[.agg #[.slice G.nA G.ns.length G.ncap,.slice G.rA G.rs.length G.rcap]] W (ju W [] 4)):=zH (fun W h=>mO G [] 4 (by rw [s1,p2,tU,hR];rfl) (by rw [e1,p1,canE,hR];rfl) W h oG)
  have HC:Hid (canE G=4):=zH (by rw [canE,hR];rfl)
  have HV:Hid (canV G= []):=zH (by rw [canV,hR];rfl)
  have HQ:Hid (canQ G= []):=zH (by rw [canQ,hR];rfl)
  rw [HC.out]
  clear hx0 hG oG p1 p2 e1 s1 hR
  go_enter Tryz.func63,Tryz.ntmps63
  go_wp2_with fail
  refine (HB.out _ HG.out).mono ?_
  rintro e w1 ⟨A1,c1,rfl,h1,hx⟩
  replace HX:=zH (HX.out.trans hx)
  have kR:=(aB (HRX.out.at hx)).1
  have fR:=(aB (HRX.out.at hx)).2
  clear h1 hx kB kA HRX HBX
  go_wp2_with fail
  ((try simp only [Exit.inBlock,Exit.then]);refine bodyPost_ret (v:= .tuple #[.agg #[.slice none 0 0,.slice none 0 0],.int .i64 4]) (by simp only [results,Tryz.results63];go_simp) rfl ?_)
  exact nQ HV.out HQ.out ((HX.out.setCell HVV.out _).setCell HVV.out _)
 | true=>
  have HO:=zH (gG oG hR)
  have HOL:=zH (xG oG hR)
  have HN:Hid (G.ns.length≤1000):=zH (by have:=oG.2.1;omega)
  have HB:Hid (∀W,GraphAt W G→Calls Tryz.prog 66 #[.agg #[.slice G.nA G.ns.length G.ncap,.slice G.rA G.rs.length G.rcap]] W (ju W (ordZ (ordG G)) 0)):=zH (fun W h=>mO G (ordZ (ordG G)) 0 (by rw [s1,p2,tU,hR];rfl) (by rw [e1,p1,canE,hR];rfl) W h oG)
  have HC:Hid (canE G=0):=zH (by rw [canE,hR];rfl)
  have HV:Hid (canV G=renN G (ordZ (ordG G))):=zH (by rw [canV,hR,if_pos rfl,(ql hR (gG oG hR)).1])
  have HQ:Hid (canQ G=renR G (ordZ (ordG G))):=zH (by rw [canQ,hR,if_pos rfl,(ql hR (gG oG hR)).2])
  have HE:Hid (renE G (ordZ (ordG G))=0):=zH (qk hR (gG oG hR))
  have HBD:Hid (∀x∈ordZ (ordG G), -9223372036854775808≤x∧x≤9223372036854775807):=zH (fun x hx=>by
   obtain ⟨i,hi,rfl⟩:=iI.1 hx
   have:=HO.out.lt i hi
   rw [mC]at this
   have:=HN.out
   omega)
  have HSZ:Hid ((ordZ (ordG G)).length≤1000):=zH (by rw [aN];have:=HOL.out;have:=HN.out;omega)
  rw [HC.out]
  clear hx0 hG oG p1 p2 e1 s1 hR
  generalize ordZ (ordG G)=l at*
  go_enter Tryz.func63,Tryz.ntmps63
  go_wp2_with fail
  refine (HB.out _ HG.out).mono ?_
  rintro e w1 ⟨A1,c1,rfl,h1,hx⟩
  replace HX:=zH (HX.out.trans hx)
  replace HG:=zH (HG.out.ext hx)
  replace HBX:=zH (HBX.out.re hx)
  replace HRX:=zH (HRX.out.re hx)
  have HI:=zH (fJ h1)
  have kA2:=(aB HBX.out.here).1
  clear h1 hx kB kA
  go_wp2_with fail
  clear kA2
  have Z:=yT G A1 c1 l w1 HG.out HOG.out.1 HI.out HSZ.out HBD.out
  rw [HE.out]at Z
  refine Z.mono ?_
  clear Z
  rintro e w2 ⟨H,rfl,g1,g2,g3,g4,g5,g6,g7,g8,hx⟩
  replace HX:=zH (HX.out.trans hx)
  have hr2:=HRX.out.at hx
  have kR:=(aB hr2).1
  have fR:=(aB hr2).2
  have hr3:=aL (i:=0) hr2 (.slice H.nA H.ns.length H.ncap)
  have HG1:=zH (g1.box hr2 sM sM 0 (.slice H.nA H.ns.length H.ncap))
  have HG2:=zH (HG1.out.box (s1:= .slice H.nA H.ns.length H.ncap) (s2:= .slice none 0 0) hr3 sM sM 1 (.slice H.rA H.rs.length H.rcap))
  have HF:=zH (show H.ns.map aY=canV G∧H.rs=canQ G from ⟨g2.trans HV.out.symm,g3.trans HQ.out.symm⟩)
  have HSH:=zH (show Shp H from ⟨g4,g5,g6,g7,g8⟩)
  clear g1 g2 g3 g4 g5 g6 g7 g8 hx hr2 hr3 HRX HBX HG1
  go_wp2_with fail
  ((try simp only [Exit.inBlock,Exit.then]);refine bodyPost_ret (v:= .tuple #[.agg #[.slice H.nA H.ns.length H.ncap,.slice H.rA H.rs.length H.rcap],.int .i64 0]) (by simp only [results,Tryz.results63];go_simp) rfl ?_)
  exact ⟨H,rfl,HG2.out,HF.out.1,HF.out.2,HSH.out.each,HSH.out.a,HSH.out.b,HSH.out.c,HSH.out.d,(HX.out.setCell HVV.out _).setCell HVV.out _⟩
theorem xZ {G H:GraphD} (oG:GOk G) (hR:aV G=true) (h1:H.ns.map aY=canV G) (h2:H.rs=canQ G) (hs:Shp H):GOk H∧aV H=true:=
 ur oG hR (gG oG hR) (h1.trans (by rw [canV,if_pos hR])) (h2.trans (by rw [canQ,if_pos hR])) hs
theorem x3 {A B H K:GraphD} (ra:aV A=true) (rb:aV B=true) (h1:H.ns.map aY=canV A) (h2:H.rs=canQ A) (h3:K.ns.map aY=canV B) (h4:K.rs=canQ B):ia H K=de A B:=by
 unfold ia gF de
 rw [h1,h2,h3,h4,ra,rb]
 rfl
theorem vE (A B:GraphD) (V:World) (hA:GraphAt V A) (hB:GraphAt V B) (oA:GOk A) (oB:GOk B):
  Calls Tryz.prog 20 #[.agg #[.slice A.nA A.ns.length A.ncap,.slice A.rA A.rs.length A.rcap],.agg #[.slice B.nA B.ns.length B.ncap,.slice B.rA B.rs.length B.rcap]] V fun e w'=>e= .returned (.bool (de A B))∧Ext V w':=by
 have hx0:=((AD V).alloc (.cells #[.slice A.nA A.ns.length A.ncap,.slice A.rA A.rs.length A.rcap] 27)).alloc (.cells #[.slice B.nA B.ns.length B.ncap,.slice B.rA B.rs.length B.rcap] 27)
 have hba:=(aG V #[.slice A.nA A.ns.length A.ncap,.slice A.rA A.rs.length A.rcap] 27 _ rfl).re ((AD _).alloc (.cells #[.slice B.nA B.ns.length B.ncap,.slice B.rA B.rs.length B.rcap] 27))
 have hbb:=aG (V.alloc (.cells #[.slice A.nA A.ns.length A.ncap,.slice A.rA A.rs.length A.rcap] 27)) #[.slice B.nA B.ns.length B.ncap,.slice B.rA B.rs.length B.rcap] 27 (V.heap.size+1) sM
 have HX:=zH hx0
 have HA:=zH (hA.ext hx0)
 have HB:=zH (hB.ext hx0)
 have HBB:=zH hbb
 have HOA:=zH oA
 have HOB:=zH oB
 have ka:=(aB hba.here).1
 obtain ⟨ca,hca⟩:∃c,canE A=c:=⟨_,rfl⟩
 obtain ⟨cb,hcb⟩:∃c,canE B=c:=⟨_,rfl⟩
 obtain ⟨r,hr⟩:∃r,de A B=r:=⟨_,rfl⟩
 have HCA:=zH hca
 have HCB:=zH hcb
 have HR:=zH hr
 rw [hr]
 clear hx0 hA hB oA oB hba hbb hca hcb hr
 go_enter Tryz.func20,Tryz.ntmps20
 go_wp2_with fail
 have Z:=ni A _ HA.out HOA.out
 rw [HCA.out]at Z
 refine Z.mono ?_
 clear Z
 rintro e w1 ⟨H,rfl,g1,g2,g3,g4,g5,g6,g7,g8,hx⟩
 replace HX:=zH (HX.out.trans hx)
 replace HB:=zH (HB.out.ext hx)
 replace HBB:=zH (HBB.out.re hx)
 have HG1:=zH g1
 have HF1:=zH (show H.ns.map aY=canV A∧H.rs=canQ A from ⟨g2,g3⟩)
 have HS1:=zH (show Shp H from ⟨g4,g5,g6,g7,g8⟩)
 have kb:=(aB HBB.out.here).1
 have hlb:=aA HBB.out.here
 clear g1 g2 g3 g4 g5 g6 g7 g8 hx ka
 go_wp2_with fail
 have hx2:=(AD w1).alloc (.cells #[.slice H.nA H.ns.length H.ncap,.slice H.rA H.rs.length H.rcap] 27)
 have HBH:=zH (aG w1 #[.slice H.nA H.ns.length H.ncap,.slice H.rA H.rs.length H.rcap] 27 _ rfl)
 replace HX:=zH (HX.out.trans hx2)
 replace HB:=zH (HB.out.ext hx2)
 replace HG1:=zH (HG1.out.ext hx2)
 clear kb hlb hx2 HBB
 generalize w1.alloc (.cells #[.slice H.nA H.ns.length H.ncap,.slice H.rA H.rs.length H.rcap] 27)=w2 at*
 generalize w1.heap.size=X at*
 have Z:=ni B _ HB.out HOB.out
 rw [HCB.out]at Z
 refine Z.mono ?_
 clear Z
 rintro e w3 ⟨K,rfl,g1,g2,g3,g4,g5,g6,g7,g8,hx⟩
 replace HX:=zH (HX.out.trans hx)
 replace HG1:=zH (HG1.out.ext hx)
 replace HBH:=zH (HBH.out.re hx)
 have HG2:=zH g1
 have HF2:=zH (show K.ns.map aY=canV B∧K.rs=canQ B from ⟨g2,g3⟩)
 have HS2:=zH (show Shp K from ⟨g4,g5,g6,g7,g8⟩)
 have kx:=(aB HBH.out.here).1
 have hlx:=aA HBH.out.here
 clear g1 g2 g3 g4 g5 g6 g7 g8 hx
 cases hra:aV A with
 | false=>
  have hr0:r=false:=by rw [←HR.out,de,hra];rfl
  have hc4:ca=4:=by rw [←HCA.out,canE,hra];rfl
  subst hr0 hc4
  go_wp2_with fail
  go_returns
  exact ⟨rfl,HX.out.alloc _⟩
 | true=>
 have hc0:ca=0:=by rw [←HCA.out,canE,hra];rfl
 subst hc0
 cases hrb:aV B with
 | false=>
  have hr0:r=false:=by rw [←HR.out,de,hrb,Bool.and_false];rfl
  have hc4:cb=4:=by rw [←HCB.out,canE,hrb];rfl
  subst hr0 hc4
  go_wp2_with fail
  go_returns
  exact ⟨rfl,HX.out.alloc _⟩
 | true=>
 have hc0:cb=0:=by rw [←HCB.out,canE,hrb];rfl
 subst hc0
 have HOH:=zH (xZ HOA.out hra HF1.out.1 HF1.out.2 HS1.out).1
 have HOK:=zH (xZ HOB.out hrb HF2.out.1 HF2.out.2 HS2.out).1
 have HSM:=zH ((x3 hra hrb HF1.out.1 HF1.out.2 HF2.out.1 HF2.out.2).trans HR.out)
 have hx2:=(AD w3).alloc (.cells #[.slice K.nA K.ns.length K.ncap,.slice K.rA K.rs.length K.rcap] 27)
 replace HX:=zH (HX.out.trans hx2)
 replace HG1:=zH (HG1.out.ext hx2)
 replace HG2:=zH (HG2.out.ext hx2)
 clear hra hrb HR HCA HCB hx2
 go_wp2_with fail
 refine (yU H K r _ HSM.out HG1.out HG2.out HOH.out.1 HOK.out.1).mono ?_
 rintro e w4 ⟨rfl,hx⟩
 replace HX:=zH (HX.out.trans hx)
 clear hx kx hlx
 go_wp2_with fail
 go_returns
 exact ⟨rfl,HX.out⟩
theorem x4 (A B:GraphD) (r:Bool) (h:de A B=r) (V:World) (hA:GraphAt V A) (hB:GraphAt V B) (oA:GOk A) (oB:GOk B):
  Calls Tryz.prog 20 #[.agg #[.slice A.nA A.ns.length A.ncap,.slice A.rA A.rs.length A.rcap],.agg #[.slice B.nA B.ns.length B.ncap,.slice B.rA B.rs.length B.rcap]] V fun e w'=>e= .returned (.bool r)∧Ext V w':=by
 subst h;exact vE A B V hA hB oA oB
theorem jv (G:GraphD) (A:Option Addr) (cap:Nat) (l:List Int) (n m:Int) (V:World) (h:addS dx G.ns l=n) (h2:addS (fun x=>x.fields.length) G.ns l=m) (hG:GraphAt V G) (hl:IntsAt V A l) (hlen:l.length≤9223372036854775807) (hn:G.ns.length≤9223372036854775807):
  Calls Tryz.prog 128 #[.agg #[.slice G.nA G.ns.length G.ncap,.slice G.rA G.rs.length G.rcap],.slice A l.length cap] V fun e w'=>e= .returned (.tuple #[.int .i64 n,.int .i64 m])∧Ext V w':=by
 rw [←h,←h2];exact oT G A cap l V hG hl hlen hn
def fW (x:NodeD):Int:=x.fields.length
theorem s8 (G:GraphD) (lim:Int) (x y f1 f2 c:Int) (hx:addS dx G.ns (planS G lim 0 1)=x) (hy:addS dx G.ns (planL G lim 0 1)=y) (hf1:addS fW G.ns (planS G lim 0 1)=f1) (hf2:addS fW G.ns (planL G lim 0 1)=f2) (hc:ap G lim 0 1=c) (V:World) (hG:GraphAt V G) (oG:GOk G) (hl: -9223372036854775808≤lim∧lim≤9223372036854775807):
  Calls Tryz.prog 75 #[.agg #[.slice G.nA G.ns.length G.ncap,.slice G.rA G.rs.length G.rcap],.int .i64 lim] V fun e w'=>e= .returned (.tuple #[.int .i64 x,.int .i64 y,.int .i64 (wrap64 (f1+f2)),.int .i64 c])∧Ext V w':=by
 have hx0:=(AD V).alloc (.cells #[.slice G.nA G.ns.length G.ncap,.slice G.rA G.rs.length G.rcap] 27)
 have hBx:=aG V #[.slice G.nA G.ns.length G.ncap,.slice G.rA G.rs.length G.rcap] 27 _ rfl
 have HPL:=zH (mN G lim 0 1 _ _ c rfl rfl hc _ (hG.ext hx0) oG hl ⟨by decide,by decide⟩)
 have hle:=iW oG (lim:=lim) (ord:=0) (blk:=1) hl ⟨by decide,by decide⟩
 have HLE:=zH hle
 have HN:=zH oG.bd.1
 have HXX:=zH hx
 have HYY:=zH hy
 have HF1:=zH hf1
 have HF2:=zH hf2
 have HX:=zH hx0
 have HG:=zH (hG.ext hx0)
 have kB:=(aB hBx.here).1
 have HBX:=zH hBx
 clear hx0 hG oG hx hy hf1 hf2 hc hBx hle
 generalize planS G lim 0 1=S at*
 generalize planL G lim 0 1=L at*
 go_enter Tryz.func75,Tryz.ntmps75
 go_wp2_with fail
 refine HPL.out.mono ?_
 rintro e w1 ⟨A1,c1,A2,c2,rfl,h1,h2, -,hx⟩
 have H1:=zH (fJ h1)
 have H2:=zH (fJ h2)
 have HX1:=zH (HX.out.trans hx)
 have HG1:=zH (HG.out.ext hx)
 have HB1:=zH (HBX.out.re hx)
 have k1:=(aB HB1.out.here).1
 clear h1 h2 hx kB HPL HBX
 go_wp2_with fail
 refine (jv G A1 c1 S x f1 _ HXX.out HF1.out HG1.out H1.out (by have:=HLE.out;omega) HN.out).mono ?_
 rintro e w2 ⟨rfl,hx2⟩
 have k2:=(aB (HB1.out.re hx2).here).1
 have HX2:=zH hx2
 clear k1 hx2
 go_wp2_with fail
 refine (jv G A2 c2 L y f2 _ HYY.out HF2.out (HG1.out.ext HX2.out) (H2.out.ext HX2.out) (by have:=HLE.out;omega) HN.out).mono ?_
 rintro e w3 ⟨rfl,hx3⟩
 have HX3:=zH ((HX1.out.trans HX2.out).trans hx3)
 clear k2 hx3
 go_wp2_with fail
 ((try simp only [Exit.inBlock,Exit.then]);refine bodyPost_ret (v:= .tuple #[.int .i64 x,.int .i64 y,.int .i64 (wrap64 (f1+f2)),.int .i64 c]) (by simp only [results,Tryz.results75];go_simp) rfl ?_)
 exact ⟨rfl,HX3.out⟩
theorem yh (G:GraphD) (lim:Int) (x y f3 c:Int) (hx:addS dx G.ns (planS G lim 0 1)=x) (hy:addS dx G.ns (planL G lim 0 1)=y) (hf3:addS fW G.ns (planS G lim 0 1++planL G lim 0 1)=f3) (hc:ap G lim 0 1=c) (V:World) (hG:GraphAt V G) (oG:GOk G) (hl: -9223372036854775808≤lim∧lim≤9223372036854775807):
  Calls Tryz.prog 73 #[.agg #[.slice G.nA G.ns.length G.ncap,.slice G.rA G.rs.length G.rcap],.int .i64 lim] V fun e w'=>e= .returned (.tuple #[.int .i64 x,.int .i64 y,.int .i64 f3,.int .i64 c])∧Ext V w':=by
 have hx0:=(AD V).alloc (.cells #[.slice G.nA G.ns.length G.ncap,.slice G.rA G.rs.length G.rcap] 27)
 have hBx:=aG V #[.slice G.nA G.ns.length G.ncap,.slice G.rA G.rs.length G.rcap] 27 _ rfl
 have HPL:=zH (tZ G lim 0 1 _ _ c rfl rfl hc _ (hG.ext hx0) oG hl ⟨by decide,by decide⟩)
 have hle:=iW oG (lim:=lim) (ord:=0) (blk:=1) hl ⟨by decide,by decide⟩
 have HLE:=zH hle
 have HN:=zH oG.bd.1
 have HXX:=zH hx
 have HYY:=zH hy
 have HF3:=zH hf3
 have HX:=zH hx0
 have HG:=zH (hG.ext hx0)
 have HG0:=zH hG
 have kB:=(aB hBx.here).1
 have HBX:=zH hBx
 have HZ:Hid (c≠0→x=0∧y=0∧f3=0):=zH (fun h=>by
  rw [←hc]at h
  have e1:planS G lim 0 1= []:=by unfold planS;rw [if_neg h]
  have e2:planL G lim 0 1= []:=by unfold planL;rw [if_neg h]
  rw [e1]at hx hf3
  rw [e2]at hy hf3
  exact ⟨hx.symm,hy.symm,hf3.symm⟩)
 clear hx0 hG oG hx hy hf3 hc hBx hle
 generalize planS G lim 0 1=S at*
 generalize planL G lim 0 1=L at*
 by_cases hc0:c=0
 rotate_left
 ·obtain ⟨rfl,rfl,rfl⟩:=HZ.out hc0
  have dc:(c==0)=false:=by simpa using hc0
  have dd:(!c==0)=true:=by rw [dc];rfl
  go_enter Tryz.func73,Tryz.ntmps73
  go_wp2_with fail
  refine HPL.out.mono ?_
  rintro e w1 ⟨A1,c1,A2,c2,rfl,h1,h2, -,hx⟩
  have HX1:=zH (HX.out.trans hx)
  clear h1 h2 hx kB HPL HBX
  go_wp2_with fail
  ((try simp only [Exit.inBlock,Exit.then]);refine bodyPost_ret (v:= .tuple #[.int .i64 0,.int .i64 0,.int .i64 0,.int .i64 c]) (by simp only [results,Tryz.results73];go_simp) rfl ?_)
  exact ⟨rfl,HX1.out⟩
 subst hc0
 go_enter Tryz.func73,Tryz.ntmps73
 go_wp2_with fail
 refine HPL.out.mono ?_
 rintro e w1 ⟨A1,c1,A2,c2,rfl,h1,h2,hne,hx⟩
 have H1:=zH (h1.mono HX.out.size)
 have H2:=zH (h2.mono HX.out.size)
 have HX1:=zH (HX.out.trans hx)
 have HG1:=zH (HG.out.ext hx)
 have HB1:=zH ((HBX.out.re hx).here)
 have HLS:Hid (S.length+L.length≤1000):=HLE
 clear h1 h2 hx kB HPL HBX hne HZ
 go_wp2_with fail
 have hyd:=(AD w1).drew
 have hGP:BoxK V.heap.size #[.slice G.nA G.ns.length G.ncap,.slice G.rA G.rs.length G.rcap] 27 w1.drew:=AN HB1.out hyd
 have gB:=hGP.cells
 (refine dJ (w:=w1) (fun w'=>∃u:KeptOf (w1).drew (BoxK V.heap.size #[.slice G.nA G.ns.length G.ncap,.slice G.rA G.rs.length G.rcap] 27),w'=u.1) (.rd [0,1,3,4,6,7,8] (.one 2 (.one 5 (.one 9 (.one 10 .tl))))) [11,12,13,14] (by kernel_rfl) (by kernel_rfl) (by intro c a d v w h;first | exact h | (cases d <;>first | exact h | (cases h;done) | cases h.1.1 | cases h.1)) (ak hGP) ?_)
 (refine iv ?_;(try simp only [aI,List.map_cons,List.map_nil,List.getD_cons_zero,List.getD_cons_succ]);(repeat (go_big_quiet_step (fail)));refine wpQuiet_nil ?_)
 replace H1:=zH (H1.out.ext hyd)
 replace H2:=zH (H2.out.ext hyd)
 replace HX1:=zH (HX1.out.trans hyd)
 replace HG1:=zH (HG1.out.ext hyd)
 replace HB1:=zH hGP
 clear hyd hGP gB
 generalize w1.drew=wN at*
 (refine cM gD rM ?_;intro K hK;go_simp)
 refine (qc G A1 c1 S x _ HXX.out HG1.out (fJ H1.out) (by have:=HLE.out;omega) HN.out).mono ?_
 rintro e wa ⟨rfl,hxa⟩
 refine hK _ _ _ (fun _ h=>h) (ak (AN HB1.out hxa)) ?_
 clear hK K
 replace H1:=zH (H1.out.ext hxa)
 replace H2:=zH (H2.out.ext hxa)
 replace HX1:=zH (HX1.out.trans hxa)
 replace HG1:=zH (HG1.out.ext hxa)
 replace HB1:=zH (AN HB1.out hxa)
 clear hxa
 (refine cM gD rM ?_;intro K hK;go_simp)
 refine (qc G A2 c2 L y _ HYY.out HG1.out (fJ H2.out) (by have:=HLE.out;omega) HN.out).mono ?_
 rintro e wb ⟨rfl,hxa⟩
 refine hK _ _ _ (fun _ h=>h) (ak (AN HB1.out hxa)) ?_
 clear hK K
 replace H1:=zH (H1.out.ext hxa)
 replace H2:=zH (H2.out.ext hxa)
 replace HX1:=zH (HX1.out.trans hxa)
 replace HG1:=zH (HG1.out.ext hxa)
 replace HB1:=zH (AN HB1.out hxa)
 clear hxa
 refine cM gD rM ?_
 intro K hK
 refine rD (.tmp 28) (.tmp 29) 38 rfl bj aO rM H1.out rM H2.out (S++L).length (by rw [List.length_append]) (by have:=HLE.out;rw [List.length_append];omega) (by have:=HLE.out;rw [List.length_append];simp [maxLen];omega) HX1.out.size ?_
 intro A3 c3 wc ho hg ht
 refine hK _ _ _ (fun _ h=>h) (ak (cO H1.out HB1.out hg dM)) ?_
 clear hK K
 have H3:=zH ho
 have HX3:=zH (H1.out.grown hg (Nat.le_refl _) HX1.out)
 have HG3:Hid (GraphAt wc G):=zH (HG0.out.ext HX3.out)
 have HB3:=zH (cO H1.out HB1.out hg dM)
 clear ho hg ht H1 H2 HG1 HB1 HX1
 (refine cM gD rM ?_;intro K hK;go_simp)
 have Z:=sK G A3 c3 (S++L) f3 _ HF3.out HG3.out (fJ H3.out) (by have:=HLE.out;rw [List.length_append];omega) HN.out
 rw [List.length_append]at Z
 refine Z.mono ?_
 rintro e wd ⟨rfl,hxa⟩
 refine hK _ _ _ (fun _ h=>h) (ak (AN HB3.out hxa)) ?_
 clear hK K Z
 have HX4:=zH (HX3.out.trans hxa)
 clear hxa
 (refine kf ?_;(try simp only [aI,List.map_cons,List.map_nil,List.getD_cons_zero,List.getD_cons_succ]))
 go_wp2_with fail
 ((try simp only [Exit.inBlock,Exit.then]);refine bodyPost_ret (v:= .tuple #[.int .i64 x,.int .i64 y,.int .i64 f3,.int .i64 0]) (by simp only [results,Tryz.results73];go_simp) rfl ?_)
 exact ⟨rfl,HX4.out⟩
theorem nj (a b:Int):wrap64 (wrap64 a+b)=wrap64 (a+b):=by unfold wrap64;omega
theorem s9 (a b:Int):wrap64 (a+wrap64 b)=wrap64 (a+b):=by unfold wrap64;omega
theorem nk (f:NodeD→Int) (ns:List NodeD):∀(l:List Int) (a:Int),wrap64 a=a→l.foldl (fun (n i:Int)=>if 0≤i∧i < ns.length then wrap64 (n+f (ns.getD i.toNat default))else n) a=wrap64 (a+addS f ns l):=by
 intro l
 induction l with
 | nil=>intro a ha;simp [addS,ha]
 | cons i l ih=>
  intro a ha
  rw [List.foldl_cons]
  unfold addS
  rw [List.foldl_cons]
  by_cases hi:0≤i∧i < (ns.length:Int)
  ·rw [if_pos hi,if_pos hi,ih _ (by unfold wrap64;omega),ih _ (by unfold wrap64;omega),nj,s9,Int.zero_add]
   rw [show a+(wrap64 (f (ns.getD i.toNat default))+addS f ns l)=wrap64 (f (ns.getD i.toNat default))+(a+addS f ns l)by omega,nj]
   congr 1
   omega
  ·rw [if_neg hi,if_neg hi,ih a ha]
   rfl
theorem vF (f:NodeD→Int) (ns:List NodeD) (l:List Int):wrap64 (addS f ns l)=addS f ns l:=by
 have:=nk f ns l 0 (IntWalk.wrap64_in 0 ⟨by decide,by decide⟩)
 rw [Int.zero_add]at this
 exact this.symm
theorem x5 (f:NodeD→Int) (ns:List NodeD) (s l:List Int):addS f ns (s++l)=wrap64 (addS f ns s+addS f ns l):=by
 rw [←nk f ns l _ (vF f ns s)]
 unfold addS
 rw [List.foldl_append]
end Go.Proofs.YtphpppjfogpohaaGreat
