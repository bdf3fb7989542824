/- Merged by program (merge.py) out of: LedK, LedL, LedM, LedN. -/
import Derived.Test.YtphpppjfogpohaaGreatMy0
import Derived.Test.YtphpppjfogpohaaGreatMy16
import Derived.Test.YtphpppjfogpohaaGreatMy14
import Derived.Deep.SlicePairs
import Derived.Test.YtphpppjfogpohaaGreatMy5
set_option linter.unusedSimpArgs false
set_option linter.unusedVariables false
set_option maxRecDepth 100000
set_option maxHeartbeats 16000000
namespace Go.Proofs.YtphpppjfogpohaaGreat
open Go.RowKit Go.Shelf
def RiseTo (a s:Int) (xs:List (Int×Int)) (k:Nat):Prop:=∀i,i < k→aq (xs.getD i (0,0)).1 (xs.getD i (0,0)).2 a s=true∧∀j,j+1=i→(xs.getD j (0,0)).1 < (xs.getD i (0,0)).1
theorem RiseTo.step {a s:Int} {xs:List (Int×Int)} {k:Nat} (h:RiseTo a s xs k) (h1:aq (xs.getD k (0,0)).1 (xs.getD k (0,0)).2 a s=true) (h2:∀j,j+1=k→(xs.getD j (0,0)).1 < (xs.getD k (0,0)).1):RiseTo a s xs (k+1):=fun i hi=>by
 rcases Nat.lt_or_ge i k with h' | h'
 ·exact h i h'
 ·obtain rfl:i=k:=by omega
  exact ⟨h1,h2⟩
theorem yO {xs:List (Int×Int)} (h:∀i,i+1 < xs.length→(xs.getD i (0,0)).1 < (xs.getD (i+1) (0,0)).1):∀d i,i+d+1 < xs.length→(xs.getD i (0,0)).1 < (xs.getD (i+d+1) (0,0)).1:=by
 intro d
 induction d with
 | zero=>intro i hi;exact h i oM
 | succ d ih=>
  intro i hi
  have h1:=ih i oM
  have h2:=h (i+d+1) oM
  rw [show i+(d+1)+1=i+d+1+1 from by omega]
  omega
theorem ul {xs:List (Int×Int)} (h:∀i,i+1 < xs.length→(xs.getD i (0,0)).1 < (xs.getD (i+1) (0,0)).1):sortS xs=xs:=by
 refine (gN (List.Perm.refl _) ?_).symm
 rw [List.pairwise_iff_getElem]
 intro i j hi hj hij
 have:=yO h (j - i - 1) i oM
 rw [show i+(j - i - 1)+1=j from by omega]at this
 simp only [List.getD_eq_getElem?_getD,List.getElem?_eq_getElem hi,List.getElem?_eq_getElem hj,Option.getD_some]at this
 rw [cA]
 exact .inl this
theorem sP {xs:List (Int×Int)} (h:∀i,i+1 < xs.length→(xs.getD i (0,0)).1 < (xs.getD (i+1) (0,0)).1):fY xs=fE xs:=by
 rw [←rZ,ul h]
theorem wx {a s:Int} {xs:List (Int×Int)} (h:RiseTo a s xs xs.length):ledB a s xs=fY xs:=by
 rw [ledB,kz fun i hi=>(h i hi).1,Bool.true_and,sP fun i hi=>(h (i+1) hi).2 i rfl]
theorem wy {xs:List (Int×Int)} (h:fE xs=true) {j:Nat} (hj:j+1 < xs.length):(xs.getD j (0,0)).1 < (xs.getD (j+1) (0,0)).1:=by
 have h2:=of_decide_eq_true h
 have h3:=(h2 (j+1) hj).2 j oM rfl
 have h4:=am (h2 j oM).1
 omega
theorem yP {a s:Int} {xs:List (Int×Int)} {j:Nat} (hj:j+1 < xs.length) (h:(xs.getD (j+1) (0,0)).1≤(xs.getD j (0,0)).1):ledB a s xs=false:=by
 have:fE xs=false:=by
  cases hc:fE xs
  ·rfl
  ·have:=wy hc hj
   omega
 rw [ledB,this,Bool.and_false]
theorem jq (a s:Int) (A A2:Option Addr) (cap cap2:Nat) (xs fs:List (Int×Int)) (w:World) (hA:A=none→cap=0) (hlen:xs.length≤100000) (hlen2:fs.length≤400000) (hl:SpansAt w A xs) (hl2:SpansAt w A2 fs):
  Calls Tryz.prog 152 #[.agg #[.int .i64 (a),.int .i64 (s)],.slice A xs.length cap,.slice A2 fs.length cap2] w fun e w'=>e= .returned (.bool (ledR a s xs fs))∧Ext w w':=by
 have hW:Ext w (w.alloc (.cells #[.int .i64 a,.int .i64 s] 63)):=(zo w).alloc _
 have HL:=zH (hl.ext hW)
 have HF:=zH (hl2.ext hW)
 have HA:=zH hA
 have b0:=bD w #[.int .i64 a,.int .i64 s] 63 0 (.int .i64 a) rfl
 have b1:=bD w #[.int .i64 a,.int .i64 s] 63 1 (.int .i64 s) rfl
 clear hl hl2 hA
 go_enter Tryz.func152,Tryz.ntmps152
 go_wp2_with fail
 generalize w.alloc (.cells #[.int .i64 a,.int .i64 s] 63)=W at*
 go_loopw [7] (fun i wr=>∃k:Nat,k≤xs.length∧i= .int .i64 k∧Ext W wr∧Hid (RiseTo a s xs k)) (fun i _=>xs.length - (intOf i).toNat)
 case atStart=>exact ⟨0,by omega,rfl,zo _,zH (fun i hi=>absurd hi oM)⟩
 case round=>
  obtain ⟨k,hk,rfl,hxr,hq⟩:=hrel
  by_cases hlt:k < xs.length
  rotate_left
  ·have HR:=zH (wx (a:=a) (s:=s) (xs:=xs) (fun i hi=>hq.out i oM))
   obtain ⟨p,hp⟩:∃p,fY xs=p:=⟨_,rfl⟩
   have HP:=zH hp
   clear hq hp
   go_wp2_with fail
   refine (np A cap xs _ oM (HL.out.ext hxr)).mono ?_
   rintro e W8 ⟨rfl,hx8⟩
   rw [HP.out]
   replace hxr:=hxr.trans hx8
   have c0:=b0 W8 hxr
   have c1:=b1 W8 hxr
   clear hx8
   cases p
   ·go_wp2_with fail
    go_ret
    exact ⟨aD (by rw [fS (by rw [HR.out,HP.out])]),hW.trans hxr⟩
   ·go_wp2_with fail
    refine (pk a s A cap xs _ HA.out oM (HL.out.ext hxr)).mono ?_
    rintro e W9 ⟨ys,hg,h8⟩
    obtain ⟨A8,cap8,rfl,hj8,hx8⟩:=h8.open
    have HJ:=zH hj8
    have hys:=qB hg
    have HG:=zH (kD (fs:=fs) (HR.out.trans HP.out) hg)
    replace hxr:=hxr.trans hx8
    clear hj8 hx8 h8 c0 c1
    go_wp2_with fail
    refine (pi A8 A2 cap8 cap2 ys fs W9 oM oM HJ.out (HF.out.ext hxr)).mono ?_
    rintro e W10 ⟨rfl,hx9⟩
    replace hxr:=hxr.trans hx9
    go_wp2_with fail
    go_ret
    exact ⟨aD (by rw [HG.out]),hW.trans hxr⟩
  obtain ⟨lb,off,rfl,hc⟩:=HL.out.get oM
  have HC:=zH hc
  obtain ⟨e1,e2⟩:=aQ hc hlt
  have HN1:=zH (fun h=>si (a:=a) (s:=s) hlt h)
  have HP:=zH (fun h1 h2=>hq.out.step h1 h2)
  have ib1:(k:Int) < (xs.length:Int):=by omega
  have l1:=fun u:ExtOf wr=>u.2.cell (hxr.cell e1)
  have l2:=fun u:ExtOf wr=>u.2.cell (hxr.cell e2)
  have m1:=fun u:ExtOf wr=>b0 u.1 (hxr.trans u.2)
  have m2:=fun u:ExtOf wr=>b1 u.1 (hxr.trans u.2)
  have hs0:Ext wr wr:=zo wr
  clear e1 e2 hc HL HF
  rcases k with _ | m
  ·generalize xs.getD 0 (0,0)=x at*
   obtain ⟨x1,x2⟩:=x
   simp only [Nat.zero_mul,Nat.add_zero]at l1 l2
   clear hq HC
   cases hb:aq x1 x2 a s
   ·go_wp2_with fail
    (refine aC (W:=wr) kR kR aS ?_;(repeat (go_big_quiet_step (first | (go_at_call 178;with_reducible exact zq (eA x1 x2 a s _ hb _)))));refine wpQuiet_nil ?_;intro w1 hx)
    go_wp2_with fail
    go_ret
    exact ⟨aD (by rw [fS (HN1.out hb)]),hW.trans (hxr.trans hx)⟩
   ·go_wp2_with fail
    (refine aC (W:=wr) kR kR aS ?_;(repeat (go_big_quiet_step (first | (go_at_call 178;with_reducible exact zq (eA x1 x2 a s _ hb _)))));refine wpQuiet_nil ?_;intro w1 hx)
    go_wp2_with fail
    (refine aC (W:=wr) kR kR aS ?_;(repeat (go_big_quiet_step (fail)));refine wpQuiet_nil ?_;intro w1 hx)
    go_wp2_with fail
    go_roundw
    case rel=>exact ⟨0+1,by omega,by go_num,hxr.trans (by assumption),zH (HP.out hb oM)⟩
    case measure=>simp [intOf];omega
  ·obtain ⟨e3,e4⟩:=aQ HC.out (show m < xs.length by omega)
   have l3:=fun u:ExtOf wr=>u.2.cell (hxr.cell e3)
   have HN2:=zH (fun h=>yP (a:=a) (s:=s) (xs:=xs) (j:=m) hlt h)
   have HP2:=zH (fun h1 (h2:(xs.getD m (0,0)).1 < (xs.getD (m+1) (0,0)).1)=>HP.out h1 (fun j (hj:j+1=m+1)=>(show j=m by omega) ▸ h2))
   clear e3 e4 hq HC HP
   generalize xs.getD (m+1) (0,0)=x at*
   generalize xs.getD m (0,0)=y at*
   obtain ⟨x1,x2⟩:=x
   obtain ⟨c,d⟩:=y
   simp only at l1 l2 l3
   have hcast:((m+1:Nat):Int)=(m:Int)+1:=by omega
   rw [hcast]
   rw [hcast]at ib1
   clear hcast
   have hp:decide ((0:Int) < (m:Int)+1)=true:=by simp;try omega
   have s1:IntKind.i64.wrap ((m:Int)+1 - 1)=(m:Int):=by rw [show (m:Int)+1 - 1=(m:Int)from by omega];exact IntWalk.i64_in _ oM
   have ib2:(m:Int) < (xs.length:Int):=by omega
   have ib3:(0:Int)≤(m:Int):=by omega
   cases hb:aq x1 x2 a s
   ·go_wp2_with fail
    (refine aC (W:=wr) kR kR aS ?_;(repeat (go_big_quiet_step (first | (go_at_call 178;with_reducible exact zq (eA x1 x2 a s _ hb _)))));refine wpQuiet_nil ?_;intro w1 hx)
    go_wp2_with fail
    go_ret
    exact ⟨aD (by rw [fS (HN1.out hb)]),hW.trans (hxr.trans hx)⟩
   ·by_cases ht:x1≤c
    ·have ht':decide (x1≤c)=true:=by simpa using ht
     have HT:=zH ht
     clear ht
     go_wp2_with fail
     (refine aC (W:=wr) kR kR aS ?_;(repeat (go_big_quiet_step (first | (go_at_call 178;with_reducible exact zq (eA x1 x2 a s _ hb _)))));refine wpQuiet_nil ?_;intro w1 hx)
     go_wp2_with fail
     (refine aC (W:=wr) kR kR aS ?_;(repeat (go_big_quiet_step (fail)));refine wpQuiet_nil ?_;intro w1 hx)
     go_wp2_with fail
     go_ret
     exact ⟨aD (by rw [fS (HN2.out HT.out)]),hW.trans (hxr.trans (by assumption))⟩
    ·have ht':decide (x1≤c)=false:=by simpa using ht
     have HT:=zH ht
     clear ht
     go_wp2_with fail
     (refine aC (W:=wr) kR kR aS ?_;(repeat (go_big_quiet_step (first | (go_at_call 178;with_reducible exact zq (eA x1 x2 a s _ hb _)))));refine wpQuiet_nil ?_;intro w1 hx)
     go_wp2_with fail
     (refine aC (W:=wr) kR kR aS ?_;(repeat (go_big_quiet_step (fail)));refine wpQuiet_nil ?_;intro w1 hx)
     go_wp2_with fail
     go_roundw
     case rel=>exact ⟨m+1+1,by omega,by go_num,hxr.trans (by assumption),zH (HP2.out hb (by have:=HT.out;omega))⟩
     case measure=>simp [intOf];omega
theorem um {xs:List (Int×Int)}:fE xs=true↔(∀x∈xs,mayB x.1 x.2=true)∧xs.Pairwise fun x y=>x.1+x.2≤y.1:=by
 constructor
 ·intro h
  have h2:=of_decide_eq_true h
  have hm:∀x∈xs,mayB x.1 x.2=true:=by
   intro x hx
   obtain ⟨i,hi,rfl⟩:=List.getElem_of_mem hx
   simpa [List.getElem?_eq_getElem hi]using (h2 i hi).1
  refine ⟨hm,?_⟩
  have key:∀d i,i+d+1 < xs.length→(xs.getD i (0,0)).1+(xs.getD i (0,0)).2≤(xs.getD (i+d+1) (0,0)).1:=by
   intro d
   induction d with
   | zero=>intro i hi;exact (h2 (i+0+1) hi).2 i oM rfl
   | succ d ih=>
    intro i hi
    have h3:=ih i oM
    have h4:=(h2 (i+d+1+1) oM).2 (i+d+1) oM rfl
    have h5:=am (h2 (i+d+1) oM).1
    rw [show i+(d+1)+1=i+d+1+1 from by omega]
    omega
  rw [List.pairwise_iff_getElem]
  intro i j hi hj hij
  have:=key (j - i - 1) i oM
  rw [show i+(j - i - 1)+1=j from by omega]at this
  simpa [List.getElem?_eq_getElem hi,List.getElem?_eq_getElem hj]using this
 ·rintro ⟨h1,h2⟩
  rw [List.pairwise_iff_getElem]at h2
  refine mm fun i hi=>⟨?_,fun j hj he=> ?_⟩
  ·have:=h1 xs[i] (List.getElem_mem hi)
   simpa [List.getElem?_eq_getElem hi]using this
  ·have:=h2 j i oM hi hj
   simpa [List.getElem?_eq_getElem hi,List.getElem?_eq_getElem (show j < xs.length by omega)]using this
end Go.Proofs.YtphpppjfogpohaaGreat
