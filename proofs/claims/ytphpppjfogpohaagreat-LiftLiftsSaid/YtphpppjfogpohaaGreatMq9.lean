/- Merged by program (merge.py) out of: Ref03C, JoinSpec, Ref03D, Ref03E, RowsSpec, SortA, SortB, RotSpec. -/
import Derived.Test.YtphpppjfogpohaaGreatMq0
import Derived.Test.YtphpppjfogpohaaGreatMq7
import Derived.Test.YtphpppjfogpohaaGreatMq8
set_option linter.unusedSimpArgs false
set_option linter.unusedVariables false
set_option maxRecDepth 100000
set_option maxHeartbeats 16000000
namespace Go.Proofs.YtphpppjfogpohaaGreat
open Go.RowKit
def xr (W:World) (xs:List (Int×Int)) (v i:Value) (wr:World):Prop:=
 ∃(k:Nat) (ys:List (Int×Int)) (A:Option Addr) (cap:Nat),k≤xs.length∧i= .int .i64 k∧v= .slice A k cap∧ys.length=k∧OwnS wr W.heap.size v ys∧
  ys.Perm (xs.take k)∧ys.Pairwise (fun x y=>leS x y=true)∧Ext W wr
theorem kq {xs ys zs:List (Int×Int)} {k:Nat} (hk:k < xs.length) (hp:ys.Perm (xs.take k)) (hz:zs.Perm (ys++ [((xs.getD k (0,0)).1,(xs.getD k (0,0)).2)])):zs.Perm (xs.take (k+1)):=by
 rw [List.take_succ_eq_append_getElem hk]
 have:((xs.getD k (0,0)).1,(xs.getD k (0,0)).2)=xs[k]:=by simp [List.getD,List.getElem?_eq_getElem hk]
 rw [this]at hz
 exact hz.trans (hp.append_right _)
theorem pX (A:Option Addr) (cap:Nat) (xs:List (Int×Int)) (W:World) (hlen:xs.length≤1000000) (hl:SpansAt W A xs):
  Calls Tryz.prog 230 #[.slice A xs.length cap] W (RetS W W.heap.size (sortS xs)):=by
 have HL:=zH hl
 clear hl
 go_enter Tryz.func230,Tryz.ntmps230
 go_wp2_with fail
 go_loopw [3,4] (fun v i wr=>xr W xs v i wr) (fun _ i _=>xs.length - (intOf i).toNat)
 case atStart=>exact ⟨0,[],none,0,by omega,rfl,rfl,rfl,AM _ _ _ _ _,by simp,List.Pairwise.nil,AD _⟩
 case round=>
  obtain ⟨k,ys,A1,cap1,hk,rfl,rfl,hyl,hown,hperm,hsort,hE⟩:=hrel
  have HO:=zH hown
  have HP:=zH hperm
  have HS:=zH hsort
  have HY:=zH hyl
  clear hown hperm hsort hyl
  by_cases hlt:k < xs.length
  rotate_left
  ·obtain rfl:k=xs.length:=by omega
   go_wp2_with fail
   go_ret
   exact ⟨_,rfl,by rw [←gT (l:=xs) (by have:=HP.out;rwa [List.take_length]at this) HS.out];exact HO.out,hE⟩
  obtain ⟨lb,off,rfl,hc⟩:=HL.out.get oM
  obtain ⟨e1,e2⟩:=aQ hc hlt
  have E1:=zH e1
  have E2:=zH e2
  have c1:∀w',Ext W w'→w'.cell? ⟨lb,off+k*2,none⟩=some (.int .i64 (xs.getD k (0,0)).1):=fun w' h=>h.cell E1.out
  have c2:∀w',Ext W w'→w'.cell? ⟨lb,off+k*2+1,none⟩=some (.int .i64 (xs.getD k (0,0)).2):=fun w' h=>h.cell E2.out
  have HT:=zH (fun (zs:List (Int×Int)) (hz:zs.Perm (ys++ [((xs.getD k (0,0)).1,(xs.getD k (0,0)).2)]))=>kq hlt HP.out hz)
  have hsz:W.heap.size≤wr.heap.size:=AG hE
  clear e1 e2 hc HL HP E1 E2
  generalize (xs.getD k (0,0)).1=a at*
  generalize (xs.getD k (0,0)).2=s at*
  have ib1:(k:Int) < (xs.length:Int):=by omega
  have ib0:(0:Int)≤(k:Int):=by omega
  have ib2:(xs.length:Int)≤1000000:=by omega
  rcases A1 with _ | ad
  ·
   have hk0:k=0∧cap1=0:=by
    rcases HO.out.2 with ⟨h,h'⟩ | ⟨g,c,cur,h,_⟩
    ·injection h with _ h1 h2;exact ⟨h1,h2⟩
    ·injection h with h;cases h
   obtain ⟨rfl,rfl⟩:=hk0
   obtain rfl:ys= []:=List.eq_nil_of_length_eq_zero HY.out
   simp only [Nat.zero_mul,Nat.add_zero,Nat.zero_add]at c1 c2
   go_wp2_with fail
   go_loopw [5] (fun i w2=>i= .int .i64 0∧∃n,w2=wr.drewN n) (fun _ _=>0)
   case atStart=>exact ⟨rfl,0,rfl⟩
   case round=>
    obtain ⟨rfl,n,rfl⟩:=hrel
    go_wp2_with fail
    go_quiet (fail)
    have hE2:=(hE.drewN n).drewN nq
    have hsz2:W.heap.size≤((wr.drewN n).drewN nq).heap.size:=AG hE2
    clear hE hsz HO
    generalize (wr.drewN n).drewN nq=W2 at*
    go_wp2_with (first
     | (at_builtin;refine eb rfl (.tmp 61) (.tmp 64) 31 rfl ae rfl (by exact AO 63 2 ac W2 W2.heap.size (Nat.le_refl _)) rfl ?_;have hE3:Ext W (W2.alloc (.cells #[] 63)):=hE2.alloc _;have HN:=zH (AO 63 2 ac W2 W2.heap.size (Nat.le_refl _)))
     | (at_builtin;refine aH rfl (.tmp 66) (.tmp 71) 31 rfl ae aE rfl (by exact HN.out) [(a,s)] 1 _ rfl 1 1 rfl rfl _ rfl sM oM (by simp [maxLen]) sM ?_;intro A3 cap3 w3 hown3 hgr3 hat3;have HO3:=zH hown3;have hE4:Ext W w3:=AF hE2 (AI HN.out (((Below.refl _ _).alloc (Nat.le_refl _) _).alloc sM _) hgr3 (by simp;try omega));clear hown3 hgr3 hat3)
     | (at_builtin;refine eb rfl (.tmp 73) (.tmp 76) 31 rfl ae rfl (by exact HO3.out) rfl ?_))
    go_roundw
    case rel=>exact ⟨1,[(a,s)],A3,cap3,by omega,by go_num,rfl,rfl,HO3.out.mono hsz2,HT.out _ sM,by simp,hE4⟩
    case measure=>simp [intOf];omega
  ·obtain ⟨A',cap',hv,hrow, -,had,hnc,hcm⟩:=HO.out.form aE dM
   injection hv with hv1 hv2 hv3
   subst hv1 hv3
   obtain ⟨had1,had2,had3,had4⟩:=had ad rfl
   obtain ⟨g,o,sp⟩:=ad
   simp only at had1 had2 had3 had4
   subst had3 had4
   have HR:=zH hrow
   have hkc:k≤cap1:=by have:=HY.out;omega
   have hcm2:cap1≤9223372036854775807:=by unfold maxLen at hcm;omega
   clear hrow hnc hcm had1 hv2
   go_wp2_with fail
   go_loopw [5] (fun i w2=>∃m:Nat,m≤k∧i= .int .i64 m∧(∃n,w2=wr.drewN n)∧Hid (∀i,m≤i→i < k→leS (a,s) (ys.getD i (0,0))=true)) (fun i _=>(intOf i).toNat)
   case atStart=>exact ⟨k,by omega,rfl,⟨0,rfl⟩,zH oM⟩
   case round=>
    obtain ⟨m,hm,rfl,⟨n,rfl⟩,hhi⟩:=hrel
    have hE2:=hE.drewN n
    have hsz2:W.heap.size≤(wr.drewN n).heap.size:=AG hE2
    have hgs:g < (wr.drewN n).heap.size:=had2
    replace HO:=zH (show OwnS (wr.drewN n) W.heap.size _ ys from HO.out)
    have HR2:=zH (show SpansAt (wr.drewN n) _ ys from HR.out)
    have ic0:(0:Int)≤(m:Int):=by omega
    have ic1:(m:Int)≤(k:Int):=by omega
    have ic2:(k:Int)≤(cap1:Int):=by omega
    rcases m with _ | m
    ·
     have HLO:Hid (∀i,i < 0→i+1=0→leS (ys.getD i (0,0)) (a,s)=true):=zH oM
     have HHI:=zH hhi.out
     clear hhi hsz HR had2
     go_wp2_with fail
     go_quiet (fail)
     replace HO:=zH (show OwnS ((wr.drewN n).drewN nq) W.heap.size _ ys from HO.out)
     replace HR2:=zH (show SpansAt ((wr.drewN n).drewN nq) _ ys from HR2.out)
     replace hE2:=hE2.drewN nq
     have hgs2:g < ((wr.drewN n).drewN nq).heap.size:=hgs
     have hsz3:W.heap.size≤((wr.drewN n).drewN nq).heap.size:=hsz2
     clear hgs hsz2 hE
     generalize (wr.drewN n).drewN nq=W2 at*
     have HI:=zH (ii HS.out (m:=0) (by have:=HY.out;omega) HLO.out (fun i h1 h2=>HHI.out i h1 (by have:=HY.out;omega)))
     have hck:0=cap1∨0 < cap1:=by omega
     have HKL:=zH (show (ys.take (0)).length=0 by have:=HY.out;simp;try omega)
     have HDL:=zH (show (ys.drop (0)).length=k - (0)by have:=HY.out;simp;try omega)
     rcases hck with hck | hck
     ·have hke:k=0:=by omega
      subst hke
      simp only [Nat.zero_mul,Nat.add_zero,Nat.zero_add]at c1 c2
      subst hck
      go_wp2_with (first
       | (at_builtin;refine an rfl (.tmp 61) (.tmp 64) 31 rfl ae aE rfl (by exact AO 63 2 ac W2 W2.heap.size (Nat.le_refl _)) (ys.take (0)) ⟨g,0,none⟩ (0) (0) (0) (by simp only [List.length_nil,HKL.out,Nat.zero_add]) HKL.out rfl (by exact AR (HR2.out.take _) ((AD _).alloc _)) oM (by simp [maxLen];try omega) sM ?_;intro A3 cap3 w3 hown3 hgr3 hat3;have HO3:=zH hown3;have hX3:Ext W2 w3:=AI (AO 63 2 ac W2 W2.heap.size (Nat.le_refl _)) ((Below.refl _ _).alloc (Nat.le_refl _) _) hgr3 sM;have hE3:Ext W w3:=hE2.trans hX3;have hs3:W2.heap.size≤w3.heap.size:=AG hX3;clear hown3 hgr3 hat3)
       | (at_builtin;refine aH rfl (.tmp 66) (.tmp 71) 31 rfl ae aE rfl (by exact HO3.out) [(a,s)] 1 _ rfl 1 1 (by simp only [List.nil_append,HKL.out,List.length_cons,List.length_nil]) rfl _ rfl (by first | rfl | simp) oM (by simp [maxLen];try omega) hs3 ?_;intro A4 cap4 w4 hown4 hgr4 hat4;have HO4:=zH hown4;have hX4:Ext W2 w4:=AI HO3.out (Below.alloc hX3 hs3 _) hgr4 (by simp;try omega);have hE4:Ext W w4:=hE2.trans hX4;have hs4:W2.heap.size≤w4.heap.size:=AG hX4;clear hown4 hgr4 hat4)
       | (at_builtin;refine an rfl (.tmp 73) (.tmp 76) 31 rfl ae aE rfl (by exact HO4.out) (ys.drop (0)) ⟨g,0,none⟩ _ (0+1) 0 (by have:=HDL.out;simp only [List.nil_append,List.length_append,HKL.out,List.length_cons,List.length_nil];omega) (by have:=HDL.out;omega) rfl (by exact AR (by rw [List.drop_eq_nil_of_le (by have:=HY.out;omega)];exact AU _ _ _) hX4) oM (by simp [maxLen];try omega) hs4 ?_;intro A5 cap5 w5 hown5 hgr5 hat5;have HO5:=zH hown5;have hE5:Ext W w5:=hE2.trans (AI HO4.out hX4 hgr5 hs4);clear hown5 hgr5 hat5))
      go_roundw
      case rel=>exact ⟨0+1,ys.take (0)++ [(a,s)]++ys.drop (0),A5,cap5,by omega,by go_num,by first | rfl | (congr 1;omega),by rw [HI.out.2.length_eq];simp [HY.out],(by have h:=HO5.out;simp only [List.nil_append]at h;exact h.mono hsz3),HT.out _ HI.out.2,HI.out.1,hE5⟩
      case measure=>simp [intOf];omega
     ·go_wp2_with (first
       | (at_builtin;refine an rfl (.tmp 61) (.tmp 64) 31 rfl ae aE rfl (by exact AO 63 2 ac W2 W2.heap.size (Nat.le_refl _)) (ys.take (0)) ⟨g,0,none⟩ cap1 (0) (0) (by simp only [List.length_nil,HKL.out,Nat.zero_add]) HKL.out rfl (by exact AR (HR2.out.take _) ((AD _).alloc _)) oM (by simp [maxLen];try omega) sM ?_;intro A3 cap3 w3 hown3 hgr3 hat3;have HO3:=zH hown3;have hX3:Ext W2 w3:=AI (AO 63 2 ac W2 W2.heap.size (Nat.le_refl _)) ((Below.refl _ _).alloc (Nat.le_refl _) _) hgr3 sM;have hE3:Ext W w3:=hE2.trans hX3;have hs3:W2.heap.size≤w3.heap.size:=AG hX3;clear hown3 hgr3 hat3)
       | (at_builtin;refine aH rfl (.tmp 66) (.tmp 71) 31 rfl ae aE rfl (by exact HO3.out) [(a,s)] 1 _ rfl 1 1 (by simp only [List.nil_append,HKL.out,List.length_cons,List.length_nil]) rfl _ rfl (by first | rfl | simp) oM (by simp [maxLen];try omega) hs3 ?_;intro A4 cap4 w4 hown4 hgr4 hat4;have HO4:=zH hown4;have hX4:Ext W2 w4:=AI HO3.out (Below.alloc hX3 hs3 _) hgr4 (by simp;try omega);have hE4:Ext W w4:=hE2.trans hX4;have hs4:W2.heap.size≤w4.heap.size:=AG hX4;clear hown4 hgr4 hat4)
       | (at_builtin;refine an rfl (.tmp 73) (.tmp 76) 31 rfl ae aE rfl (by exact HO4.out) (ys.drop (0)) ⟨g,0,none⟩ _ (k+1) _ (by simp only [List.nil_append,List.length_append,HKL.out,HDL.out,List.length_cons,List.length_nil];omega) HDL.out rfl (by have h0:=HR2.out.drop (0);first | exact AR h0 hX4 | (rw [Nat.zero_add]at h0;exact AR h0 hX4)) oM (by simp [maxLen];try omega) hs4 ?_;intro A5 cap5 w5 hown5 hgr5 hat5;have HO5:=zH hown5;have hE5:Ext W w5:=hE2.trans (AI HO4.out hX4 hgr5 hs4);clear hown5 hgr5 hat5))
      go_roundw
      case rel=>exact ⟨k+1,ys.take (0)++ [(a,s)]++ys.drop (0),A5,cap5,by omega,by go_num,by first | rfl | (congr 1;omega),by rw [HI.out.2.length_eq];simp [HY.out],(by have h:=HO5.out;simp only [List.nil_append]at h;exact h.mono hsz3),HT.out _ HI.out.2,HI.out.1,hE5⟩
      case measure=>simp [intOf];omega
    ·have hmk:m < ys.length:=by have:=HY.out;omega
     have hcast:((m+1:Nat):Int)=(m:Int)+1:=by omega
     rw [hcast]
     rw [hcast]at ic0 ic1
     clear hcast
     have hy1:(ys.getD m (0,0)).1=(ys.getD m (0,0)).1:=rfl
     obtain ⟨f1,f2⟩:wr.cell? ⟨g,m*2,none⟩=some (.int .i64 (ys.getD m (0,0)).1)∧wr.cell? ⟨g,m*2+1,none⟩=some (.int .i64 (ys.getD m (0,0)).2):=by
      obtain ⟨b',off',hA,hc'⟩:=HR2.out
      have hA':=hA (by intro e;subst e;simp at hmk)
      simp only [Option.some.injEq,Addr.mk.injEq,and_true]at hA'
      obtain ⟨rfl,rfl⟩:=hA'
      have:=aQ hc' hmk
      simpa using this
     have HG:=zH (rfl:ys.getD m (0,0)=ys.getD m (0,0))
     have HLE:=zH (fun (h:leS (ys.getD m (0,0)) (a,s)=true)=>(fun i (h1:i < m+1) (h2:i+1=m+1)=>by
      obtain rfl:i=m:=by omega
      exact h:∀i,i < m+1→i+1=m+1→leS (ys.getD i (0,0)) (a,s)=true))
     have HLT:=zH (fun (h:leS (a,s) (ys.getD m (0,0))=true)=>(fun i (h1:m≤i) (h2:i < k)=>by
      rcases Nat.lt_or_ge m i with h3 | h3
      ·exact hhi.out i h3 h2
      ·obtain rfl:i=m:=by omega
       exact h:∀i,m≤i→i < k→leS (a,s) (ys.getD i (0,0))=true))
     have HHI:=zH hhi.out
     clear hhi hsz HR had2 hy1 HG
     generalize ys.getD m (0,0)=y at*
     obtain ⟨y1,y2⟩:=y
     simp only at f1 f2
     have id0:(0:Int) < (m:Int)+1:=by omega
     have id1:(m:Int) < (k:Int):=by omega
     by_cases h1:a < y1
     ·have HLT2:=zH (HLT.out (by rw [cE];exact .inl h1))
      clear HLT HLE HHI
      go_wp2_with fail
      go_quiet (fail)
      go_wp2_with fail
      go_roundw
      case rel=>exact ⟨m,by omega,by go_num,(by first | exact ⟨_,rfl⟩ | (simp only [World.drewN_drewN];exact ⟨_,rfl⟩)),HLT2⟩
      case measure=>simp [intOf]
     have hd1:decide (a < y1)=false:=by simpa using h1
     by_cases h2:a=y1
     ·have hd2:((a:Int)==y1)=true:=by simpa using h2
      by_cases h3:s < y2
      ·have HLT2:=zH (HLT.out (by rw [cE];exact .inr ⟨h2,by simp only;omega⟩))
       clear HLT HLE HHI h1 h2
       go_wp2_with fail
       go_quiet (fail)
       go_wp2_with fail
       go_roundw
       case rel=>exact ⟨m,by omega,by go_num,(by first | exact ⟨_,rfl⟩ | (simp only [World.drewN_drewN];exact ⟨_,rfl⟩)),HLT2⟩
       case measure=>simp [intOf]
      ·have HLO:=zH (HLE.out (by rw [cE];exact .inr ⟨h2.symm,by simp only;omega⟩))
       have hd3:decide (s < y2)=false:=by simpa using h3
       clear HLT HLE h1 h2 h3
       go_wp2_with fail
       go_quiet (fail)
       replace HO:=zH (show OwnS ((wr.drewN n).drewN nq) W.heap.size _ ys from HO.out)
       replace HR2:=zH (show SpansAt ((wr.drewN n).drewN nq) _ ys from HR2.out)
       replace hE2:=hE2.drewN nq
       have hgs2:g < ((wr.drewN n).drewN nq).heap.size:=hgs
       have hsz3:W.heap.size≤((wr.drewN n).drewN nq).heap.size:=hsz2
       clear hgs hsz2 f1 f2 hE
       generalize (wr.drewN n).drewN nq=W2 at*
       have HI:=zH (ii HS.out (m:=m+1) (by have:=HY.out;omega) HLO.out (fun i h1 h2=>HHI.out i h1 (by have:=HY.out;omega)))
       have hck:m+1=cap1∨m+1 < cap1:=by omega
       have HKL:=zH (show (ys.take (m+1)).length=m+1 by have:=HY.out;simp;try omega)
       have HDL:=zH (show (ys.drop (m+1)).length=k - (m+1)by have:=HY.out;simp;try omega)
       rcases hck with hck | hck
       ·have hke:k=m+1:=by omega
        subst hke
        subst hck
        go_wp2_with (first
         | (at_builtin;refine an rfl (.tmp 61) (.tmp 64) 31 rfl ae aE rfl (by exact AO 63 2 ac W2 W2.heap.size (Nat.le_refl _)) (ys.take (m+1)) ⟨g,0,none⟩ (m+1) (m+1) (m+1) (by simp only [List.length_nil,HKL.out,Nat.zero_add]) HKL.out rfl (by exact AR (HR2.out.take _) ((AD _).alloc _)) oM (by simp [maxLen];try omega) sM ?_;intro A3 cap3 w3 hown3 hgr3 hat3;have HO3:=zH hown3;have hX3:Ext W2 w3:=AI (AO 63 2 ac W2 W2.heap.size (Nat.le_refl _)) ((Below.refl _ _).alloc (Nat.le_refl _) _) hgr3 sM;have hE3:Ext W w3:=hE2.trans hX3;have hs3:W2.heap.size≤w3.heap.size:=AG hX3;clear hown3 hgr3 hat3)
         | (at_builtin;refine aH rfl (.tmp 66) (.tmp 71) 31 rfl ae aE rfl (by exact HO3.out) [(a,s)] 1 _ rfl (m+1+1) 1 (by simp only [List.nil_append,HKL.out,List.length_cons,List.length_nil]) rfl _ rfl (by first | rfl | simp) oM (by simp [maxLen];try omega) hs3 ?_;intro A4 cap4 w4 hown4 hgr4 hat4;have HO4:=zH hown4;have hX4:Ext W2 w4:=AI HO3.out (Below.alloc hX3 hs3 _) hgr4 (by simp;try omega);have hE4:Ext W w4:=hE2.trans hX4;have hs4:W2.heap.size≤w4.heap.size:=AG hX4;clear hown4 hgr4 hat4)
         | (at_builtin;refine an rfl (.tmp 73) (.tmp 76) 31 rfl ae aE rfl (by exact HO4.out) (ys.drop (m+1)) ⟨g,0,none⟩ _ (m+1+1) 0 (by have:=HDL.out;simp only [List.nil_append,List.length_append,HKL.out,List.length_cons,List.length_nil];omega) (by have:=HDL.out;omega) rfl (by exact AR (by rw [List.drop_eq_nil_of_le (by have:=HY.out;omega)];exact AU _ _ _) hX4) oM (by simp [maxLen];try omega) hs4 ?_;intro A5 cap5 w5 hown5 hgr5 hat5;have HO5:=zH hown5;have hE5:Ext W w5:=hE2.trans (AI HO4.out hX4 hgr5 hs4);clear hown5 hgr5 hat5))
        go_roundw
        case rel=>exact ⟨m+1+1,ys.take (m+1)++ [(a,s)]++ys.drop (m+1),A5,cap5,by omega,by go_num,by first | rfl | (congr 1;omega),by rw [HI.out.2.length_eq];simp [HY.out],(by have h:=HO5.out;simp only [List.nil_append]at h;exact h.mono hsz3),HT.out _ HI.out.2,HI.out.1,hE5⟩
        case measure=>simp [intOf];omega
       ·go_wp2_with (first
         | (at_builtin;refine an rfl (.tmp 61) (.tmp 64) 31 rfl ae aE rfl (by exact AO 63 2 ac W2 W2.heap.size (Nat.le_refl _)) (ys.take (m+1)) ⟨g,0,none⟩ cap1 (m+1) (m+1) (by simp only [List.length_nil,HKL.out,Nat.zero_add]) HKL.out rfl (by exact AR (HR2.out.take _) ((AD _).alloc _)) oM (by simp [maxLen];try omega) sM ?_;intro A3 cap3 w3 hown3 hgr3 hat3;have HO3:=zH hown3;have hX3:Ext W2 w3:=AI (AO 63 2 ac W2 W2.heap.size (Nat.le_refl _)) ((Below.refl _ _).alloc (Nat.le_refl _) _) hgr3 sM;have hE3:Ext W w3:=hE2.trans hX3;have hs3:W2.heap.size≤w3.heap.size:=AG hX3;clear hown3 hgr3 hat3)
         | (at_builtin;refine aH rfl (.tmp 66) (.tmp 71) 31 rfl ae aE rfl (by exact HO3.out) [(a,s)] 1 _ rfl (m+1+1) 1 (by simp only [List.nil_append,HKL.out,List.length_cons,List.length_nil]) rfl _ rfl (by first | rfl | simp) oM (by simp [maxLen];try omega) hs3 ?_;intro A4 cap4 w4 hown4 hgr4 hat4;have HO4:=zH hown4;have hX4:Ext W2 w4:=AI HO3.out (Below.alloc hX3 hs3 _) hgr4 (by simp;try omega);have hE4:Ext W w4:=hE2.trans hX4;have hs4:W2.heap.size≤w4.heap.size:=AG hX4;clear hown4 hgr4 hat4)
         | (at_builtin;refine an rfl (.tmp 73) (.tmp 76) 31 rfl ae aE rfl (by exact HO4.out) (ys.drop (m+1)) ⟨g,(m+1)*2,none⟩ _ (k+1) _ (by simp only [List.nil_append,List.length_append,HKL.out,HDL.out,List.length_cons,List.length_nil];omega) HDL.out rfl (by have h0:=HR2.out.drop (m+1);first | exact AR h0 hX4 | (rw [Nat.zero_add]at h0;exact AR h0 hX4)) oM (by simp [maxLen];try omega) hs4 ?_;intro A5 cap5 w5 hown5 hgr5 hat5;have HO5:=zH hown5;have hE5:Ext W w5:=hE2.trans (AI HO4.out hX4 hgr5 hs4);clear hown5 hgr5 hat5))
        go_roundw
        case rel=>exact ⟨k+1,ys.take (m+1)++ [(a,s)]++ys.drop (m+1),A5,cap5,by omega,by go_num,by first | rfl | (congr 1;omega),by rw [HI.out.2.length_eq];simp [HY.out],(by have h:=HO5.out;simp only [List.nil_append]at h;exact h.mono hsz3),HT.out _ HI.out.2,HI.out.1,hE5⟩
        case measure=>simp [intOf];omega
     ·have hd2:((a:Int)==y1)=false:=by simpa using h2
      have HLO:=zH (HLE.out (by rw [cE];exact .inl (by simp only;omega)))
      clear HLT HLE h1 h2
      go_wp2_with fail
      go_quiet (fail)
      replace HO:=zH (show OwnS ((wr.drewN n).drewN nq) W.heap.size _ ys from HO.out)
      replace HR2:=zH (show SpansAt ((wr.drewN n).drewN nq) _ ys from HR2.out)
      replace hE2:=hE2.drewN nq
      have hgs2:g < ((wr.drewN n).drewN nq).heap.size:=hgs
      have hsz3:W.heap.size≤((wr.drewN n).drewN nq).heap.size:=hsz2
      clear hgs hsz2 f1 f2 hE
      generalize (wr.drewN n).drewN nq=W2 at*
      have HI:=zH (ii HS.out (m:=m+1) (by have:=HY.out;omega) HLO.out (fun i h1 h2=>HHI.out i h1 (by have:=HY.out;omega)))
      have hck:m+1=cap1∨m+1 < cap1:=by omega
      have HKL:=zH (show (ys.take (m+1)).length=m+1 by have:=HY.out;simp;try omega)
      have HDL:=zH (show (ys.drop (m+1)).length=k - (m+1)by have:=HY.out;simp;try omega)
      rcases hck with hck | hck
      ·have hke:k=m+1:=by omega
       subst hke
       subst hck
       go_wp2_with (first
        | (at_builtin;refine an rfl (.tmp 61) (.tmp 64) 31 rfl ae aE rfl (by exact AO 63 2 ac W2 W2.heap.size (Nat.le_refl _)) (ys.take (m+1)) ⟨g,0,none⟩ (m+1) (m+1) (m+1) (by simp only [List.length_nil,HKL.out,Nat.zero_add]) HKL.out rfl (by exact AR (HR2.out.take _) ((AD _).alloc _)) oM (by simp [maxLen];try omega) sM ?_;intro A3 cap3 w3 hown3 hgr3 hat3;have HO3:=zH hown3;have hX3:Ext W2 w3:=AI (AO 63 2 ac W2 W2.heap.size (Nat.le_refl _)) ((Below.refl _ _).alloc (Nat.le_refl _) _) hgr3 sM;have hE3:Ext W w3:=hE2.trans hX3;have hs3:W2.heap.size≤w3.heap.size:=AG hX3;clear hown3 hgr3 hat3)
        | (at_builtin;refine aH rfl (.tmp 66) (.tmp 71) 31 rfl ae aE rfl (by exact HO3.out) [(a,s)] 1 _ rfl (m+1+1) 1 (by simp only [List.nil_append,HKL.out,List.length_cons,List.length_nil]) rfl _ rfl (by first | rfl | simp) oM (by simp [maxLen];try omega) hs3 ?_;intro A4 cap4 w4 hown4 hgr4 hat4;have HO4:=zH hown4;have hX4:Ext W2 w4:=AI HO3.out (Below.alloc hX3 hs3 _) hgr4 (by simp;try omega);have hE4:Ext W w4:=hE2.trans hX4;have hs4:W2.heap.size≤w4.heap.size:=AG hX4;clear hown4 hgr4 hat4)
        | (at_builtin;refine an rfl (.tmp 73) (.tmp 76) 31 rfl ae aE rfl (by exact HO4.out) (ys.drop (m+1)) ⟨g,0,none⟩ _ (m+1+1) 0 (by have:=HDL.out;simp only [List.nil_append,List.length_append,HKL.out,List.length_cons,List.length_nil];omega) (by have:=HDL.out;omega) rfl (by exact AR (by rw [List.drop_eq_nil_of_le (by have:=HY.out;omega)];exact AU _ _ _) hX4) oM (by simp [maxLen];try omega) hs4 ?_;intro A5 cap5 w5 hown5 hgr5 hat5;have HO5:=zH hown5;have hE5:Ext W w5:=hE2.trans (AI HO4.out hX4 hgr5 hs4);clear hown5 hgr5 hat5))
       go_roundw
       case rel=>exact ⟨m+1+1,ys.take (m+1)++ [(a,s)]++ys.drop (m+1),A5,cap5,by omega,by go_num,by first | rfl | (congr 1;omega),by rw [HI.out.2.length_eq];simp [HY.out],(by have h:=HO5.out;simp only [List.nil_append]at h;exact h.mono hsz3),HT.out _ HI.out.2,HI.out.1,hE5⟩
       case measure=>simp [intOf];omega
      ·go_wp2_with (first
        | (at_builtin;refine an rfl (.tmp 61) (.tmp 64) 31 rfl ae aE rfl (by exact AO 63 2 ac W2 W2.heap.size (Nat.le_refl _)) (ys.take (m+1)) ⟨g,0,none⟩ cap1 (m+1) (m+1) (by simp only [List.length_nil,HKL.out,Nat.zero_add]) HKL.out rfl (by exact AR (HR2.out.take _) ((AD _).alloc _)) oM (by simp [maxLen];try omega) sM ?_;intro A3 cap3 w3 hown3 hgr3 hat3;have HO3:=zH hown3;have hX3:Ext W2 w3:=AI (AO 63 2 ac W2 W2.heap.size (Nat.le_refl _)) ((Below.refl _ _).alloc (Nat.le_refl _) _) hgr3 sM;have hE3:Ext W w3:=hE2.trans hX3;have hs3:W2.heap.size≤w3.heap.size:=AG hX3;clear hown3 hgr3 hat3)
        | (at_builtin;refine aH rfl (.tmp 66) (.tmp 71) 31 rfl ae aE rfl (by exact HO3.out) [(a,s)] 1 _ rfl (m+1+1) 1 (by simp only [List.nil_append,HKL.out,List.length_cons,List.length_nil]) rfl _ rfl (by first | rfl | simp) oM (by simp [maxLen];try omega) hs3 ?_;intro A4 cap4 w4 hown4 hgr4 hat4;have HO4:=zH hown4;have hX4:Ext W2 w4:=AI HO3.out (Below.alloc hX3 hs3 _) hgr4 (by simp;try omega);have hE4:Ext W w4:=hE2.trans hX4;have hs4:W2.heap.size≤w4.heap.size:=AG hX4;clear hown4 hgr4 hat4)
        | (at_builtin;refine an rfl (.tmp 73) (.tmp 76) 31 rfl ae aE rfl (by exact HO4.out) (ys.drop (m+1)) ⟨g,(m+1)*2,none⟩ _ (k+1) _ (by simp only [List.nil_append,List.length_append,HKL.out,HDL.out,List.length_cons,List.length_nil];omega) HDL.out rfl (by have h0:=HR2.out.drop (m+1);first | exact AR h0 hX4 | (rw [Nat.zero_add]at h0;exact AR h0 hX4)) oM (by simp [maxLen];try omega) hs4 ?_;intro A5 cap5 w5 hown5 hgr5 hat5;have HO5:=zH hown5;have hE5:Ext W w5:=hE2.trans (AI HO4.out hX4 hgr5 hs4);clear hown5 hgr5 hat5))
       go_roundw
       case rel=>exact ⟨k+1,ys.take (m+1)++ [(a,s)]++ys.drop (m+1),A5,cap5,by omega,by go_num,by first | rfl | (congr 1;omega),by rw [HI.out.2.length_eq];simp [HY.out],(by have h:=HO5.out;simp only [List.nil_append]at h;exact h.mono hsz3),HT.out _ HI.out.2,HI.out.1,hE5⟩
       case measure=>simp [intOf];omega
end Go.Proofs.YtphpppjfogpohaaGreat
namespace Go.Proofs.YtphpppjfogpohaaGreat
abbrev InS (x:Int×Int) (p:Int):Prop:=x.1≤p∧p < x.1+x.2
structure Canon (zs:List (Int×Int)) (S:Int→Prop):Prop where
 pos:∀x∈zs,1≤x.2
 apart:zs.Pairwise (fun x y=>x.1+x.2 < y.1)
 mem:∀p,(∃x∈zs,InS x p)↔S p
theorem Canon.nil {S:Int→Prop} (h:∀p,¬S p):Canon [] S:=⟨by simp,List.Pairwise.nil,fun p=>by simp [h p]⟩
theorem Canon.congr {zs:List (Int×Int)} {S T:Int→Prop} (h:Canon zs S) (e:∀p,S p↔T p):Canon zs T:=⟨h.pos,h.apart,fun p=>(h.mem p).trans (e p)⟩
theorem Canon.tail {x:Int×Int} {zs:List (Int×Int)} {S:Int→Prop} (h:Canon (x::zs) S):Canon zs (fun p=>S p∧x.1+x.2≤p):=by
 have ha:=h.apart
 rw [List.pairwise_cons]at ha
 refine ⟨fun y hy=>h.pos y (by simp [hy]),ha.2,fun p=>⟨fun ⟨y,hy,hp⟩=>⟨(h.mem p).1 ⟨y,by simp [hy],hp⟩,?_⟩,fun ⟨hs,hp⟩=> ?_⟩⟩
 ·have:=ha.1 y hy
  have:=hp.1
  omega
 ·obtain ⟨y,hy,hyp⟩:=(h.mem p).2 hs
  rw [List.mem_cons]at hy
  rcases hy with rfl | hy
  ·have:=hyp.2;omega
  ·exact ⟨y,hy,hyp⟩
theorem Canon.unique:∀ {zs ys:List (Int×Int)} {S:Int→Prop},Canon zs S→Canon ys S→zs=ys:=by
 intro zs
 induction zs with
 | nil=>
  intro ys S h k
  cases ys with
  | nil=>rfl
  | cons y ys=>
   have:=(k.mem y.1).1 ⟨y,by simp,by have:=k.pos y sM;exact ⟨by omega,by omega⟩⟩
   have:=(h.mem y.1).2 this
   simp at this
 | cons x zs ih=>
  intro ys S h k
  cases ys with
  | nil=>
   have:=(h.mem x.1).1 ⟨x,by simp,by have:=h.pos x sM;exact ⟨by omega,by omega⟩⟩
   have:=(k.mem x.1).2 this
   simp at this
  | cons y ys=>
   have hx:=h.pos x sM
   have hy:=k.pos y sM
   have hxa:=h.apart
   have hya:=k.apart
   rw [List.pairwise_cons]at hxa hya
   have lo:∀ {a b:Int×Int} {l m:List (Int×Int)},Canon (a::l) S→Canon (b::m) S→b.1≤a.1:=by
    intro a b l m ha hb
    have hpa:=ha.pos a sM
    have hba:=hb.apart
    rw [List.pairwise_cons]at hba
    have h1:=(ha.mem a.1).1 ⟨a,by simp,⟨by omega,by omega⟩⟩
    obtain ⟨c,hc,hcp⟩:=(hb.mem a.1).2 h1
    rw [List.mem_cons]at hc
    rcases hc with rfl | hc
    ·exact hcp.1
    ·have:=hba.1 c hc;have:=hcp.1;have:=hb.pos b sM;omega
   have e1:x.1=y.1:=by have:=lo h k;have:=lo k h;omega
   have hi:∀ {a b:Int×Int} {l m:List (Int×Int)},Canon (a::l) S→Canon (b::m) S→a.1=b.1→a.1+a.2≤b.1+b.2:=by
    intro a b l m ha hb e
    rcases Int.lt_or_le (b.1+b.2) (a.1+a.2)with hlt | hle
    ·have hpb:=hb.pos b sM
     have hba:=hb.apart
     rw [List.pairwise_cons]at hba
     have h1:=(ha.mem (b.1+b.2)).1 ⟨a,by simp,⟨by omega,by omega⟩⟩
     obtain ⟨c,hc,hcp⟩:=(hb.mem (b.1+b.2)).2 h1
     rw [List.mem_cons]at hc
     rcases hc with rfl | hc
     ·have:=hcp.2;omega
     ·have:=hba.1 c hc;have:=hcp.1;omega
    ·exact hle
   have e2:x.2=y.2:=by have:=hi h k e1;have:=hi k h e1.symm;omega
   obtain rfl:x=y:=Prod.ext e1 e2
   rw [ih h.tail k.tail]
structure EndsOf (xs:List (Int×Int)) (es:List Int):Prop where
 inc:es.Pairwise (· < ·)
 mem:∀z,z∈es↔∃x∈xs,mayB x.1 x.2=true∧(z=x.1∨z=x.1+x.2)
theorem ey {a s p:Int}:hasB a s p=true↔mayB a s=true∧a≤p∧p < a+s:=by simp [hasB]
theorem cG {xs:List (Int×Int)} {p:Int}:ai xs p=true↔∃x∈xs,mayB x.1 x.2=true∧InS x p:=by
 unfold ai
 rw [List.any_eq_true]
 constructor
 ·rintro ⟨x,hx,h⟩;exact ⟨x,hx,ey.1 h⟩
 ·rintro ⟨x,hx,h⟩;exact ⟨x,hx,ey.2 h⟩
structure JoinTo (T:Int→Prop) (e:Int) (zs:List (Int×Int)):Prop where
 canon:Canon zs (fun p=>T p∧p < e)
 upto:∀x∈zs,x.1+x.2≤e
theorem JoinTo.skip {T:Int→Prop} {e e':Int} {zs:List (Int×Int)} (h:JoinTo T e zs) (he:e < e') (hT:∀p,e≤p→p < e'→¬T p):JoinTo T e' zs:=
 ⟨h.canon.congr fun p=>⟨fun ⟨a,b⟩=>⟨a,by omega⟩,fun ⟨a,b⟩=>⟨a,by rcases Int.lt_or_le p e with c | c;exact c;exact absurd a (hT p c b)⟩⟩,fun x hx=>by have:=h.upto x hx;omega⟩
theorem JoinTo.put {T:Int→Prop} {e e':Int} {zs:List (Int×Int)} (h:JoinTo T e zs) (he:e < e') (hT:∀p,e≤p→p < e'→T p):JoinTo T e' (putJ zs e e'):=by
 rcases List.eq_nil_or_concat zs with rfl | ⟨ys,x,rfl⟩
 ·rw [pS]
  refine ⟨⟨by simp;omega,by simp,fun p=> ?_⟩,by simp;omega⟩
  have hm:=h.canon.mem p
  simp only [List.not_mem_nil,false_and,exists_false,false_iff,not_and]at hm
  constructor
  ·rintro ⟨y,hy,h1,h2⟩
   simp only [List.mem_singleton]at hy
   subst hy
   simp only at h1 h2
   exact ⟨hT p oM oM,by omega⟩
  ·rintro ⟨h1,h2⟩
   refine ⟨(e,e' - e),by simp,?_,?_⟩
   ·have:=hm h1;simp only;omega
   ·simp only;omega
 ·obtain ⟨a,s⟩:=x
  rw [List.concat_eq_append]at*
  have hpos:=h.canon.pos (a,s) sM
  have hup:=h.upto (a,s) sM
  simp only at hpos hup
  have hap:=h.canon.apart
  rw [List.pairwise_append]at hap
  obtain ⟨hap1, -,hap3⟩:=hap
  by_cases hj:a+s=e
  ·rw [jS ys a s e e' hj]
   refine ⟨⟨?_,?_,fun p=> ?_⟩,?_⟩
   ·intro y hy
    rw [List.mem_append]at hy
    rcases hy with hy | hy
    ·exact h.canon.pos y (by simp [hy])
    ·simp only [List.mem_singleton]at hy;subst hy;simp only;omega
   ·rw [List.pairwise_append]
    refine ⟨hap1,by simp,fun y hy z hz=> ?_⟩
    simp only [List.mem_singleton]at hz;subst hz
    exact hap3 y hy (a,s) sM
   ·have hm:=h.canon.mem p
    constructor
    ·rintro ⟨y,hy,h1,h2⟩
     rw [List.mem_append]at hy
     rcases hy with hy | hy
     ·have:=hm.1 ⟨y,by simp [hy],h1,h2⟩
      exact ⟨this.1,by omega⟩
     ·simp only [List.mem_singleton]at hy;subst hy
      simp only at h1 h2
      rcases Int.lt_or_le p e with c | c
      ·have:=hm.1 ⟨(a,s),by simp,h1,by simp only;omega⟩
       exact ⟨this.1,by omega⟩
      ·exact ⟨hT p c oM,by omega⟩
    ·rintro ⟨h1,h2⟩
     rcases Int.lt_or_le p e with c | c
     ·obtain ⟨y,hy,hyp⟩:=hm.2 ⟨h1,c⟩
      rw [List.mem_append]at hy
      rcases hy with hy | hy
      ·exact ⟨y,by simp [hy],hyp⟩
      ·simp only [List.mem_singleton]at hy;subst hy
       exact ⟨(a,e' - a),by simp,hyp.1,by simp only;omega⟩
     ·exact ⟨(a,e' - a),by simp,by simp only;omega,by simp only;omega⟩
   ·intro y hy
    rw [List.mem_append]at hy
    rcases hy with hy | hy
    ·have:=h.upto y (by simp [hy]);omega
    ·simp only [List.mem_singleton]at hy;subst hy;simp only;omega
  ·rw [kk ys a s e e' hj]
   have hlt:a+s < e:=by omega
   refine ⟨⟨?_,?_,fun p=> ?_⟩,?_⟩
   ·intro y hy
    rw [List.mem_append]at hy
    rcases hy with hy | hy
    ·exact h.canon.pos y hy
    ·simp only [List.mem_singleton]at hy;subst hy;simp only;omega
   ·rw [List.pairwise_append]
    refine ⟨h.canon.apart,by simp,fun y hy z hz=> ?_⟩
    simp only [List.mem_singleton]at hz;subst hz
    simp only
    rw [List.mem_append]at hy
    rcases hy with hy | hy
    ·have:=hap3 y hy (a,s) sM
     simp only at this
     omega
    ·simp only [List.mem_singleton]at hy;subst hy;exact hlt
   ·have hm:=h.canon.mem p
    constructor
    ·rintro ⟨y,hy,h1,h2⟩
     rw [List.mem_append]at hy
     rcases hy with hy | hy
     ·have:=hm.1 ⟨y,hy,h1,h2⟩
      exact ⟨this.1,by omega⟩
     ·simp only [List.mem_singleton]at hy;subst hy
      simp only at h1 h2
      exact ⟨hT p oM oM,by omega⟩
    ·rintro ⟨h1,h2⟩
     rcases Int.lt_or_le p e with c | c
     ·obtain ⟨y,hy,hyp⟩:=hm.2 ⟨h1,c⟩
      exact ⟨y,by rw [List.mem_append];exact .inl hy,hyp⟩
     ·exact ⟨(e,e' - e),by simp,by simp only;omega,by simp only;omega⟩
   ·intro y hy
    rw [List.mem_append]at hy
    rcases hy with hy | hy
    ·have:=h.upto y hy;omega
    ·simp only [List.mem_singleton]at hy;subst hy;simp only;omega
end Go.Proofs.YtphpppjfogpohaaGreat
namespace Go.Proofs.YtphpppjfogpohaaGreat
open Go.RowKit
def ptsL (xs:List (Int×Int)):List (Int×Int):=xs.flatMap fun x=>if mayB x.1 x.2 then [(x.1,0),(x.1+x.2,0)]else []
theorem xt {xs:List (Int×Int)} {k:Nat} (hk:k < xs.length) (h:mayB (xs.getD k (0,0)).1 (xs.getD k (0,0)).2=true):
  ptsL (xs.take (k+1))=ptsL (xs.take k)++ [((xs.getD k (0,0)).1,0),((xs.getD k (0,0)).1+(xs.getD k (0,0)).2,0)]:=by
 have e:xs.getD k (0,0)=xs[k]:=by simp [List.getD,List.getElem?_eq_getElem hk]
 rw [e]at h⊢
 rw [List.take_succ_eq_append_getElem hk]
 simp only [ptsL,List.flatMap_append,List.flatMap_cons,List.flatMap_nil,h,if_true,List.append_nil]
theorem zI {xs:List (Int×Int)} {k:Nat} (hk:k < xs.length) (h:mayB (xs.getD k (0,0)).1 (xs.getD k (0,0)).2=false):ptsL (xs.take (k+1))=ptsL (xs.take k):=by
 have e:xs.getD k (0,0)=xs[k]:=by simp [List.getD,List.getElem?_eq_getElem hk]
 rw [e]at h
 rw [List.take_succ_eq_append_getElem hk]
 simp only [ptsL,List.flatMap_append,List.flatMap_cons,List.flatMap_nil,h,Bool.false_eq_true,if_false,List.append_nil]
theorem xu (xs:List (Int×Int)):(ptsL xs).length≤2*xs.length:=by
 induction xs with
 | nil=>simp [ptsL]
 | cons x xs ih=>
  have:ptsL (x::xs)=(if mayB x.1 x.2 then [(x.1,0),(x.1+x.2,0)]else [])++ptsL xs:=by simp [ptsL]
  rw [this]
  split <;>simp <;>omega
theorem oV {xs:List (Int×Int)} {y:Int×Int}:y∈ptsL xs↔∃x∈xs,mayB x.1 x.2=true∧(y=(x.1,0)∨y=(x.1+x.2,0)):=by
 unfold ptsL
 rw [List.mem_flatMap]
 constructor
 ·rintro ⟨x,hx,h⟩
  split at h
  ·rename_i hm;simp at h;exact ⟨x,hx,hm,h⟩
  ·simp at h
 ·rintro ⟨x,hx,hm,h⟩
  exact ⟨x,hx,by rw [if_pos hm];simpa using h⟩
structure FirstsOf (ys:List (Int×Int)) (es:List Int):Prop where
 inc:es.Pairwise (· < ·)
 mem:∀p,p∈es↔∃y∈ys,y.1=p
theorem FirstsOf.same {zs:List (Int×Int)} {es:List Int} {k:Nat} (hk:k+1 < zs.length) (h:FirstsOf (zs.take (k+1)) es) (e:(zs.getD (k+1) (0,0)).1=(zs.getD k (0,0)).1):FirstsOf (zs.take (k+1+1)) es:=by
 refine ⟨h.inc,fun p=>(h.mem p).trans ?_⟩
 have e1:zs.getD (k+1) (0,0)=zs[k+1]:=by simp [List.getD,List.getElem?_eq_getElem hk]
 have e2:zs.getD k (0,0)=zs[k]:=by simp [List.getD,List.getElem?_eq_getElem (show k < zs.length by omega)]
 rw [e1,e2]at e
 rw [show zs.take (k+1+1)=zs.take (k+1)++ [zs[k+1]]from List.take_succ_eq_append_getElem hk]
 constructor
 ·rintro ⟨y,hy,rfl⟩;exact ⟨y,List.mem_append.2 (.inl hy),rfl⟩
 ·rintro ⟨y,hy,rfl⟩
  rw [List.mem_append]at hy
  rcases hy with hy | hy
  ·exact ⟨y,hy,rfl⟩
  ·simp only [List.mem_singleton]at hy
   subst hy
   exact ⟨zs[k],List.mem_take_iff_getElem.2 ⟨k,by omega,rfl⟩,e.symm⟩
theorem FirstsOf.more {zs:List (Int×Int)} {es:List Int} {k:Nat} (hs:zs.Pairwise (fun x y=>leS x y=true)) (hk:k < zs.length) (h:FirstsOf (zs.take k) es)
  (e:∀j,j+1=k→(zs.getD k (0,0)).1≠(zs.getD j (0,0)).1):FirstsOf (zs.take (k+1)) (es++ [(zs.getD k (0,0)).1]):=by
 have gd:∀i (h:i < zs.length),zs[i]'h=zs.getD i (0,0):=fun i h=>by simp [List.getD,List.getElem?_eq_getElem h]
 have ht:zs.take (k+1)=zs.take k++ [zs.getD k (0,0)]:=by rw [←gd k hk];exact List.take_succ_eq_append_getElem hk
 have hs':∀i j,i < j→j < zs.length→(zs.getD i (0,0)).1≤(zs.getD j (0,0)).1:=fun i j hij hj=>by
  have:=List.pairwise_iff_getElem.1 hs i j oM hj hij
  rw [gd,gd,cE]at this
  omega
 rw [ht]
 refine ⟨?_,fun p=> ?_⟩
 ·rw [List.pairwise_append]
  refine ⟨h.inc,by simp,fun p hp q hq=> ?_⟩
  simp only [List.mem_singleton]at hq
  subst hq
  obtain ⟨y,hy,rfl⟩:=(h.mem p).1 hp
  obtain ⟨j,hj,rfl⟩:=List.getElem_of_mem hy
  have hjk:j < k:=by simp at hj;omega
  rw [List.getElem_take,gd j oM]
  have h2:=hs' (k - 1) k oM hk
  have h3:(zs.getD j (0,0)).1≤(zs.getD (k - 1) (0,0)).1:=by
   rcases Nat.lt_or_ge j (k - 1)with h | h
   ·exact hs' j (k - 1) h oM
   ·have:j=k - 1:=by omega
    subst this;exact Int.le_refl _
  have h4:=e (k - 1) oM
  omega
 ·simp only [List.mem_append,List.mem_singleton]
  constructor
  ·rintro (hp | rfl)
   ·obtain ⟨y,hy,rfl⟩:=(h.mem p).1 hp;exact ⟨y,.inl hy,rfl⟩
   ·exact ⟨_,.inr rfl,rfl⟩
  ·rintro ⟨y,hy | rfl,rfl⟩
   ·exact .inl ((h.mem _).2 ⟨y,hy,rfl⟩)
   ·exact .inr rfl
theorem xv {xs:List (Int×Int)} {es:List Int} (h:FirstsOf (sortS (ptsL xs)) es):EndsOf xs es:=by
 refine ⟨h.inc,fun z=>(h.mem z).trans ?_⟩
 constructor
 ·rintro ⟨y,hy,rfl⟩
  rw [fh,oV]at hy
  obtain ⟨x,hx,hm,rfl | rfl⟩:=hy
  ·exact ⟨x,hx,hm,.inl rfl⟩
  ·exact ⟨x,hx,hm,.inr rfl⟩
 ·rintro ⟨x,hx,hm,rfl | rfl⟩
  ·exact ⟨(x.1,0),by rw [fh,oV];exact ⟨x,hx,hm,.inl rfl⟩,rfl⟩
  ·exact ⟨(x.1+x.2,0),by rw [fh,oV];exact ⟨x,hx,hm,.inr rfl⟩,rfl⟩
def vg (W:World) (zs:List (Int×Int)) (v i:Value) (wr:World):Prop:=
 ∃(k m:Nat) (A:Option Addr) (cap:Nat) (es:List Int),k≤zs.length∧i= .int .i64 k∧v= .slice A m cap∧es.length=m∧m≤k∧OwnI wr W.heap.size v es∧FirstsOf (zs.take k) es∧Ext W wr
def vh (W:World) (xs:List (Int×Int)) (v i:Value) (wr:World):Prop:=
 ∃(k n:Nat) (A:Option Addr) (cap:Nat),k≤xs.length∧i= .int .i64 k∧v= .slice A n cap∧n≤2*k∧(ptsL (xs.take k)).length=n∧OwnS wr W.heap.size v (ptsL (xs.take k))∧Ext W wr
theorem pY (A:Option Addr) (cap:Nat) (xs:List (Int×Int)) (W:World) (hlen:xs.length≤400000) (hl:SpansAt W A xs):
  Calls Tryz.prog 210 #[.slice A xs.length cap] W (fun e w'=>∃es,EndsOf xs es∧RetI W W.heap.size es e w'):=by
 have HL:=zH hl
 clear hl
 go_enter Tryz.func210,Tryz.ntmps210
 go_wp2_with fail
 go_loopw [3,4] (fun v i wr=>vh W xs v i wr) (fun _ i _=>xs.length - (intOf i).toNat)
 case atStart=>exact ⟨0,0,none,0,by omega,rfl,rfl,by omega,rfl,AM _ _ _ _ _,AD _⟩
 case round=>
  obtain ⟨k,n,A1,cap1,hk,rfl,rfl,hn,hyl,hown,hE⟩:=hrel
  have HO:=zH hown
  have HY:=zH hyl
  clear hown hyl
  by_cases hlt:k < xs.length
  rotate_left
  ·obtain rfl:k=xs.length:=by omega
   have hps:=HO.out
   have hpl:=HY.out
   have hpn:=xu xs
   rw [List.take_length]at hps hpl
   have HEND:=zH (fun (es:List Int) (h:FirstsOf (sortS (ptsL xs)) es)=>xv h)
   clear HO HY HL
   generalize ptsL xs=ps at*
   subst hpl
   obtain ⟨A0,cap0,hv,hrow, -, -, -, -⟩:=Own.form hps aE dM
   injection hv with hv1 hv2 hv3
   subst hv1 hv3
   have HR:=zH hrow
   clear hrow hv2 hps
   have hpl2:ps.length≤1000000:=by omega
   go_wp2_with fail
   refine (pX A1 cap1 ps wr hpl2 HR.out).mono ?_
   rintro e W2 ⟨v2,rfl,hown2,hb2⟩
   have hE2:Ext W W2:=hE.trans hb2
   have HS:=zH (dy ps)
   have hzl:(sortS ps).length≤1000000:=by rw [gU];exact hpl2
   generalize sortS ps=zs at*
   obtain ⟨A2,cap2,rfl,hrow2, -, -, -, -⟩:=Own.form hown2 aE dM
   have HR2:=zH hrow2
   have hsz:W.heap.size≤W2.heap.size:=AG hE2
   have HX:=zH hE2
   clear hrow2 hown2 hb2 hE hE2 HR hpl2 hn hpn
   go_wp2_with fail
   go_loopw [5,6] (fun v i wr=>vg W2 zs v i wr) (fun _ i _=>zs.length - (intOf i).toNat)
   case atStart=>exact ⟨0,0,none,0,[],by omega,rfl,rfl,rfl,by omega,AM _ _ _ _ _,⟨List.Pairwise.nil,by simp⟩,AD _⟩
   case round=>
    obtain ⟨k,m,A3,cap3,es,hk2,rfl,rfl,hel,hmk,hown3,hfo,hE3⟩:=hrel
    have HO:=zH hown3
    have HF:=zH hfo
    have HM:=zH hel
    have hsz3:W2.heap.size≤wr.heap.size:=AG hE3
    clear hown3 hfo hel
    by_cases hlz:k < zs.length
    rotate_left
    ·obtain rfl:k=zs.length:=by omega
     go_wp2_with fail
     go_ret
     exact ⟨es,HEND.out es (by have:=HF.out;rwa [List.take_length]at this),_,rfl,HO.out.mono hsz,HX.out.trans hE3⟩
    obtain ⟨lb,off,rfl,hc⟩:=HR2.out.get oM
    obtain ⟨f1, -⟩:=aQ hc hlz
    have F1:=zH f1
    have HC:=zH hc
    have c1:∀w',Ext W2 w'→w'.cell? ⟨lb,off+k*2,none⟩=some (.int .i64 (zs.getD k (0,0)).1):=fun w' h=>h.cell F1.out
    have HMO:=zH (fun e=>FirstsOf.more HS.out hlz HF.out e)
    clear f1 hc HR2
    have ib1:(k:Int) < (zs.length:Int):=by omega
    have ib0:(0:Int)≤(k:Int):=by omega
    rcases k with _ | k
    ·generalize (zs.getD 0 (0,0)).1=a at*
     simp only [Nat.zero_mul,Nat.add_zero,Nat.zero_add]at c1
     go_wp2_with fail
     go_quiet (fail)
     go_wp2_with (at_builtin;refine aH rfl (.tmp 63) (.tmp 69) 38 rfl bj aO rfl (by exact HO.out) [a] 1 _ rfl (m+1) 1 (by rw [HM.out];rfl) rfl _ rfl (by first | rfl | simp) oM (by simp [maxLen];try omega) (by exact hsz3) ?_;intro A4 cap4 w4 hown4 hgr4 hat4;have HO4:=zH hown4;have hE4:Ext W2 w4:=AI HO.out (Below.alloc (Ext.drewN hE3 _) (by exact hsz3) _) hgr4 (by simp;omega);clear hown4 hgr4 hat4)
     go_roundw
     case rel=>exact ⟨1,m+1,A4,cap4,es++ [a],by omega,by go_num,rfl,by simp [HM.out],by omega,HO4.out,HMO.out oM,hE4⟩
     case measure=>simp [intOf];omega
    ·obtain ⟨g1, -⟩:=aQ HC.out (show k < zs.length by omega)
     have G1:=zH g1
     have c2:∀w',Ext W2 w'→w'.cell? ⟨lb,off+k*2,none⟩=some (.int .i64 (zs.getD k (0,0)).1):=fun w' h=>h.cell G1.out
     have HSA:=zH (fun e=>FirstsOf.same (zs:=zs) hlz HF.out e)
     replace HMO:=zH (fun (e:(zs.getD (k+1) (0,0)).1≠(zs.getD k (0,0)).1)=>HMO.out (fun j hj=>by have hjk:j=k:=oM;subst hjk;exact e))
     clear g1 HC F1 G1 HF
     generalize (zs.getD (k+1) (0,0)).1=a at*
     generalize (zs.getD k (0,0)).1=b at*
     have hcast:((k+1:Nat):Int)=(k:Int)+1:=by omega
     rw [hcast]
     rw [hcast]at ib0 ib1
     clear hcast
     have ib3:(0:Int)≤(k:Int):=by omega
     have ib4:(k:Int) < (zs.length:Int):=by omega
     have ib5:((k:Int)+1==0)=false:=by simp;omega
     have ib6:(zs.length:Int)≤1000000:=by omega
     by_cases hab:a=b
     ·have hab1:(a !=b)=false:=by simpa using hab
      have HN:=zH (HSA.out hab)
      clear hab HSA HMO
      go_wp2_with fail
      go_quiet (fail)
      go_wp2_with fail
      go_roundw
      case rel=>exact ⟨k+1+1,m,A3,cap3,es,by omega,by go_num,rfl,HM.out,by omega,HO.out,HN.out,hE3.drewN _⟩
      case measure=>simp [intOf];omega
     ·have hab1:(a !=b)=true:=by simpa using hab
      have HN:=zH (HMO.out hab)
      clear hab HSA HMO
      go_wp2_with fail
      go_quiet (fail)
      go_wp2_with (at_builtin;refine aH rfl (.tmp 63) (.tmp 69) 38 rfl bj aO rfl (by exact HO.out) [a] 1 _ rfl (m+1) 1 (by rw [HM.out];rfl) rfl _ rfl (by first | rfl | simp) oM (by simp [maxLen];try omega) (by exact hsz3) ?_;intro A4 cap4 w4 hown4 hgr4 hat4;have HO4:=zH hown4;have hE4:Ext W2 w4:=AI HO.out (Below.alloc (Ext.drewN hE3 _) (by exact hsz3) _) hgr4 (by simp;omega);clear hown4 hgr4 hat4)
      go_roundw
      case rel=>exact ⟨k+1+1,m+1,A4,cap4,es++ [a],by omega,by go_num,rfl,by simp [HM.out],by omega,HO4.out,HN.out,hE4⟩
      case measure=>simp [intOf];omega
  obtain ⟨lb,off,rfl,hc⟩:=HL.out.get oM
  obtain ⟨e1,e2⟩:=aQ hc hlt
  have E1:=zH e1
  have E2:=zH e2
  have c1:∀w',Ext W w'→w'.cell? ⟨lb,off+k*2,none⟩=some (.int .i64 (xs.getD k (0,0)).1):=fun w' h=>h.cell E1.out
  have c2:∀w',Ext W w'→w'.cell? ⟨lb,off+k*2+1,none⟩=some (.int .i64 (xs.getD k (0,0)).2):=fun w' h=>h.cell E2.out
  have HPY:=zH (fun h=>xt hlt h)
  have HPN:=zH (fun h=>zI hlt h)
  have hsz:W.heap.size≤wr.heap.size:=AG hE
  clear e1 e2 hc HL E1 E2
  generalize (xs.getD k (0,0)).1=a at*
  generalize (xs.getD k (0,0)).2=s at*
  have ib1:(k:Int) < (xs.length:Int):=by omega
  have ib0:(0:Int)≤(k:Int):=by omega
  have ib2:(xs.length:Int)≤400000:=by omega
  cases hm:mayB a s
  ·go_wp2_with fail
   refine (cY _ _ _).mono ?_
   rintro e w1 ⟨rfl,hx1⟩
   replace HO:=zH (HO.out.ext hx1)
   replace hE:=hE.trans hx1
   clear hx1
   go_wp2_with fail
   go_roundw
   case rel=>exact ⟨k+1,n,A1,cap1,by omega,by go_num,rfl,by omega,by rw [HPN.out hm];exact HY.out,by rw [HPN.out hm];exact HO.out,hE⟩
   case measure=>simp [intOf];omega
  ·obtain ⟨m1,m2,m3,m4⟩:=au hm
   go_wp2_with fail
   refine (cY _ _ _).mono ?_
   rintro e w1 ⟨rfl,hx1⟩
   replace HO:=zH (HO.out.ext hx1)
   replace hE:=hE.trans hx1
   have hsz1:W.heap.size≤w1.heap.size:=AG hE
   clear hx1 hsz
   go_wp2_with fail
   have hws:IntKind.i64.wrap (a+s)=a+s:=IntWalk.i64_in _ oM
   go_region_held3 (fun w1=>Ext W w1) (first | (with_reducible assumption) | (exact AJ aS) | (with_reducible exact AJ (AL aS _)) | (with_reducible exact AL aS _) | (exact AF aS aS)) (first
    | (refine kh rfl (.tmp 18) (.tmp 37) 31 rfl ae aE rfl (by exact HO.out) [(a,0),(a+s,0)] 2 _ rfl (n+2) 2 (by rw [HY.out];rfl) rfl _ rfl (by first | rfl | simp) oM (by simp [maxLen];try omega) hsz1 ?_;intro A2 cap2 w2 hown2 hgr2 hat2;have HO2:=zH hown2;have hE2:Ext W w2:=AI HO.out ((Below.alloc hE hsz1 _).drew) hgr2 (by simp;omega);clear hown2 hgr2 hat2))
   clear hws
   go_wp2_with fail
   go_roundw
   case rel=>exact ⟨k+1,n+2,A2,cap2,by omega,by go_num,rfl,by omega,by rw [HPY.out hm];simp [HY.out],by rw [HPY.out hm];exact HO2.out,by assumption⟩
   case measure=>simp [intOf];omega
theorem kH {xs:List (Int×Int)} {es:List Int} (h:EndsOf xs es):∀z∈es,0≤z∧z≤1099511627776:=by
 intro z hz
 obtain ⟨x,hx,hm,h2⟩:=(h.mem z).1 hz
 have:=au hm
 omega
theorem rT (c:Int) (es:List Int) (h:es.Pairwise (· < ·)) (hlo:∀z∈es,c≤z):∀i (hi:i < es.length),c+i≤es[i]:=by
 intro i
 induction i with
 | zero=>intro hi;have:=hlo es[0] (List.getElem_mem _);omega
 | succ i ih=>
  intro hi
  have h1:=ih oM
  have h2:=List.pairwise_iff_getElem.1 h i (i+1) oM hi oM
  omega
def vl (xs zs:List (Int×Int)):Prop:=Canon zs (fun p=>ai xs p=true)
theorem ij {xs:List (Int×Int)} {es:List Int} (h:EndsOf xs es) {p:Int} (hp:ai xs p=true):∃(i:Nat) (hi:i+1 < es.length),es[i]≤p∧p < es[i+1]:=by
 obtain ⟨x,hx,hm,h1,h2⟩:=cG.1 hp
 obtain ⟨i,hi,e1⟩:=List.getElem_of_mem ((h.mem x.1).2 ⟨x,hx,hm,.inl rfl⟩)
 obtain ⟨j,hj,e2⟩:=List.getElem_of_mem ((h.mem (x.1+x.2)).2 ⟨x,hx,hm,.inr rfl⟩)
 have key:∀n,n < es.length→es[i]≤p→(∀m (hm:m < es.length),n≤m→p < es[m])→i < n→∃(k:Nat) (hk:k+1 < es.length),es[k]≤p∧p < es[k+1]:=by
  intro n
  induction n with
  | zero=>intro _ _ _ h;omega
  | succ n ih=>
   intro hn h1 h2 h3
   by_cases hc:p < es[n]
   ·have hne:i≠n:=by intro e;subst e;omega
    exact ih oM h1 (fun m hm hmn=>by
     rcases Nat.lt_or_ge n m with h | h
     ·exact h2 m hm h
     ·have:m=n:=by omega
      subst this;exact hc) oM
   ·exact ⟨n,hn,by omega,h2 (n+1) hn (Nat.le_refl _)⟩
 refine key j hj oM (fun m hm hjm=> ?_) ?_
 ·rcases Nat.lt_or_ge j m with h3 | h3
  ·have:=List.pairwise_iff_getElem.1 h.inc j m hj hm h3
   omega
  ·have:m=j:=by omega
   subst this;omega
 ·rcases Nat.lt_or_ge i j with h3 | h3
  ·exact h3
  ·rcases Nat.lt_or_ge j i with h4 | h4
   ·have:=List.pairwise_iff_getElem.1 h.inc j i hj hi h4
    omega
   ·have:i=j:=by omega
    subst this;omega
theorem vm (xs:List (Int×Int)) (p q:Int):(putJ xs p q).length≤xs.length+1:=by
 unfold putJ
 split
 ·split <;>simp <;>omega
 ·simp
theorem xw {xs:List (Int×Int)} {p q:Int} (h:∀x∈xs,0≤x.1∧0≤x.2∧x.1+x.2≤p) (hp:0≤p) (hpq:p≤q) (hq:q≤1099511627776):∀x∈putJ xs p q,Lo x.1∧Lo x.2:=by
 intro x hx
 rcases List.eq_nil_or_concat xs with rfl | ⟨ys,y,rfl⟩
 ·rw [pS]at hx;simp only [List.mem_singleton]at hx;subst hx;exact ⟨⟨by omega,by omega⟩,by simp only;omega,by simp only;omega⟩
 ·obtain ⟨a,s⟩:=y
  rw [List.concat_eq_append]at*
  have h1:=h (a,s) sM
  simp only at h1
  by_cases hj:a+s=p
  ·rw [jS ys a s p q hj,List.mem_append]at hx
   rcases hx with hx | hx
   ·have:=h x (by simp [hx]);exact ⟨⟨by omega,by omega⟩,by omega,by omega⟩
   ·simp only [List.mem_singleton]at hx;subst hx;simp only;exact ⟨⟨by omega,by omega⟩,by omega,by omega⟩
  ·rw [kk ys a s p q hj,List.mem_append]at hx
   rcases hx with hx | hx
   ·have:=h x hx;exact ⟨⟨by omega,by omega⟩,by omega,by omega⟩
   ·simp only [List.mem_singleton]at hx;subst hx;simp only;exact ⟨⟨by omega,by omega⟩,by omega,by omega⟩
end Go.Proofs.YtphpppjfogpohaaGreat
namespace Go.Proofs.YtphpppjfogpohaaGreat
def cV (st:List (Int×Int)×(Int×Int)) (x:Int×Int):List (Int×Int)×(Int×Int):=
 if mayB x.1 x.2=true then
  if 0 < st.2.2∧x.1≤st.2.1+st.2.2 then (st.1,(st.2.1,max (st.2.1+st.2.2) (x.1+x.2) - st.2.1))
  else (if 0 < st.2.2 then st.1++ [st.2]else st.1,x)
 else st
def foldJ (l:List (Int×Int)):List (Int×Int)×(Int×Int):=l.foldl cV ([],(0,0))
def bZ (st:List (Int×Int)×(Int×Int)):List (Int×Int):=if 0 < st.2.2 then st.1++ [st.2]else st.1
def ml (zs:List (Int×Int)):List (Int×Int):=bZ (foldJ zs)
def dg (xs:List (Int×Int)):List (Int×Int):=ml (sortS xs)
theorem kr (l:List (Int×Int)) (x:Int×Int):foldJ (l++ [x])=cV (foldJ l) x:=by simp [foldJ]
theorem rU {zs:List (Int×Int)} {k:Nat} (hk:k < zs.length):foldJ (zs.take (k+1))=cV (foldJ (zs.take k)) (zs.getD k (0,0)):=by
 rw [List.take_succ_eq_append_getElem hk,kr]
 simp [List.getElem?_eq_getElem hk]
theorem oW (st:List (Int×Int)×(Int×Int)) (x:Int×Int):st.1 <+:(cV st x).1:=by
 unfold cV
 split
 ·split
  ·exact List.prefix_refl _
  ·simp only
   split
   ·exact List.prefix_append _ _
   ·exact List.prefix_refl _
 ·exact List.prefix_refl _
theorem oX (l:List (Int×Int)):∀st,st.1 <+:(l.foldl cV st).1:=by
 induction l with
 | nil=>exact fun st=>List.prefix_refl _
 | cons x l ih=>exact fun st=>(oW st x).trans (ih _)
theorem oY (st:List (Int×Int)×(Int×Int)):st.1 <+:bZ st:=by
 unfold bZ
 split
 ·exact List.prefix_append _ _
 ·exact List.prefix_refl _
theorem pZ (zs:List (Int×Int)) (k:Nat):(foldJ (zs.take k)).1 <+:ml zs:=by
 have h:foldJ zs=(zs.drop k).foldl cV (foldJ (zs.take k)):=by
  conv=>lhs;rw [←List.take_append_drop k zs]
  simp only [foldJ,List.foldl_append]
 unfold ml
 rw [h]
 exact (oX _ _).trans (oY _)
structure InvJ (l:List (Int×Int)) (st:List (Int×Int)×(Int×Int)):Prop where
 may:0 < st.2.2→mayB st.2.1 st.2.2=true
 zero:0≤st.2.2
 none:¬0 < st.2.2→st.1= []
 first:0 < st.2.2→∃y∈l,st.2.1=y.1
 canon:Canon (bZ st) (fun p=>ai l p=true)
theorem eB {zs:List (Int×Int)} {S T:Int→Prop} {x:Int×Int} (h:Canon zs S) (hx:1≤x.2) (ha:∀y∈zs,y.1+y.2 < x.1) (hT:∀p,T p↔S p∨InS x p):Canon (zs++ [x]) T:=by
 refine ⟨?_,?_,fun p=> ?_⟩
 ·intro y hy
  rw [List.mem_append,List.mem_singleton]at hy
  rcases hy with hy | rfl
  ·exact h.pos y hy
  ·exact hx
 ·rw [List.pairwise_append]
  refine ⟨h.apart,by simp,fun y hy z hz=> ?_⟩
  rw [List.mem_singleton]at hz
  subst hz
  exact ha y hy
 ·rw [hT p,←h.mem p]
  constructor
  ·rintro ⟨y,hy,hp⟩
   rw [List.mem_append,List.mem_singleton]at hy
   rcases hy with hy | rfl
   ·exact .inl ⟨y,hy,hp⟩
   ·exact .inr hp
  ·rintro (⟨y,hy,hp⟩ | hp)
   ·exact ⟨y,by simp [hy],hp⟩
   ·exact ⟨x,by simp,hp⟩
theorem ef (l:List (Int×Int)) (x:Int×Int) (p:Int):ai (l++ [x]) p=true↔ai l p=true∨(mayB x.1 x.2=true∧InS x p):=by
 rw [cG,cG]
 constructor
 ·rintro ⟨y,hy,hm,hp⟩
  rw [List.mem_append,List.mem_singleton]at hy
  rcases hy with hy | rfl
  ·exact .inl ⟨y,hy,hm,hp⟩
  ·exact .inr ⟨hm,hp⟩
 ·rintro (⟨y,hy,hm,hp⟩ | ⟨hm,hp⟩)
  ·exact ⟨y,by simp [hy],hm,hp⟩
  ·exact ⟨x,by simp,hm,hp⟩
theorem InvJ.start:InvJ [] ([],(0,0)):=⟨by simp,by simp,by simp,by simp,by
 have:bZ ([],(0,0))= []:=by simp [bZ]
 rw [this]
 exact Canon.nil (by simp [ai])⟩
theorem InvJ.step {l:List (Int×Int)} {st:List (Int×Int)×(Int×Int)} {x:Int×Int} (h:InvJ l st) (hx:∀y∈l,y.1≤x.1):InvJ (l++ [x]) (cV st x):=by
 obtain ⟨em,a,s⟩:=st
 by_cases hm:mayB x.1 x.2=true
 rotate_left
 ·have e:cV (em,a,s) x=(em,a,s):=by simp [cV,hm]
  rw [e]
  refine ⟨h.may,h.zero,h.none,fun h0=> ?_,h.canon.congr fun p=> ?_⟩
  ·obtain ⟨y,hy,e⟩:=h.first h0
   exact ⟨y,by simp [hy],e⟩
  ·rw [ef];simp [hm]
 have hxb:=au hm
 by_cases h0:0 < s
 ·have hob:=au (h.may h0)
  simp only at hob
  have hc:=h.canon
  have hf:bZ (em,a,s)=em++ [(a,s)]:=by simp [bZ,h0]
  rw [hf]at hc
  have hap:=hc.apart
  rw [List.pairwise_append]at hap
  obtain ⟨hap1, -,hap3⟩:=hap
  obtain ⟨y0,hy0,e0⟩:=h.first h0
  simp only at e0
  have hax:a≤x.1:=by have:=hx y0 hy0;omega
  have hem:Canon em (fun p=>ai l p=true∧p < a):=by
   refine ⟨fun y hy=>hc.pos y (by simp [hy]),hap1,fun p=> ?_⟩
   have:=hc.mem p
   constructor
   ·rintro ⟨y,hy,hp⟩
    refine ⟨this.1 ⟨y,by simp [hy],hp⟩,?_⟩
    have:=hap3 y hy (a,s) sM
    have:=hp.2
    simp only at*
    omega
   ·rintro ⟨hp,hlt⟩
    obtain ⟨y,hy,hyp⟩:=this.2 hp
    rw [List.mem_append,List.mem_singleton]at hy
    rcases hy with hy | rfl
    ·exact ⟨y,hy,hyp⟩
    ·have:=hyp.1;simp only at this;omega
  have hcov:∀p,ai l p=true↔(ai l p=true∧p < a)∨InS (a,s) p:=by
   intro p
   constructor
   ·intro hp
    obtain ⟨y,hy,hyp⟩:=(hc.mem p).2 hp
    rw [List.mem_append,List.mem_singleton]at hy
    rcases hy with hy | rfl
    ·exact .inl ((hem.mem p).1 ⟨y,hy,hyp⟩)
    ·exact .inr hyp
   ·rintro (hp | hp)
    ·exact hp.1
    ·exact (hc.mem p).1 ⟨(a,s),by simp,hp⟩
  by_cases hj:x.1≤a+s
  ·have e:cV (em,a,s) x=(em,(a,max (a+s) (x.1+x.2) - a)):=by simp [cV,hm,h0,hj]
   rw [e]
   have hpos:0 < max (a+s) (x.1+x.2) - a:=by omega
   refine ⟨fun _=> ?_,by simp only;omega,fun hn=>absurd hpos hn,fun _=>⟨y0,by simp [hy0],e0⟩,?_⟩
   ·simp only [mayB,decide_eq_true_eq];omega
   ·have hf2:bZ (em,(a,max (a+s) (x.1+x.2) - a))=em++ [(a,max (a+s) (x.1+x.2) - a)]:=by simp only [bZ];rw [if_pos hpos]
    rw [hf2]
    refine eB hem (by simp only;omega) (fun y hy=>hap3 y hy (a,s) sM) fun p=> ?_
    rw [ef]
    have hcp:=hcov p
    constructor
    ·intro h3
     rcases (show ((ai l p=true∧p < a)∨InS (a,s) p)∨(mayB x.1 x.2=true∧InS x p)from h3.imp hcp.1 id)with (hp | ⟨p1,p2⟩) | ⟨-,p1,p2⟩
     ·exact .inl hp
     ·exact .inr ⟨p1,by simp only at*;omega⟩
     ·exact .inr ⟨by simp only at*;omega,by simp only at*;omega⟩
    ·rintro (hp | ⟨p1,p2⟩)
     ·exact .inl hp.1
     ·simp only at p1 p2
      by_cases hq:p < a+s
      ·exact .inl (hcp.2 (.inr ⟨p1,hq⟩))
      ·exact .inr ⟨hm,by omega,by omega⟩
  ·have e : cV (em, a, s) x = (em ++ [(a, s)], x) := by
    simp only [cV,hm,if_true]
    rw [if_neg (fun h=>hj h.2),if_pos h0]
   rw [e]
   refine ⟨fun _=>hm,by simp only;omega,fun hn=>absurd (show 0 < x.2 by omega) hn,fun _=>⟨x,by simp,rfl⟩,?_⟩
   have hf2:bZ (em++ [(a,s)],x)=em++ [(a,s)]++ [x]:=by simp only [bZ];rw [if_pos oM]
   rw [hf2]
   refine eB hc oM (fun y hy=> ?_) fun p=> ?_
   ·rw [List.mem_append,List.mem_singleton]at hy
    rcases hy with hy | rfl
    ·have:=hap3 y hy (a,s) sM
     simp only at this
     omega
    ·simp only;omega
   ·rw [ef];simp [hm]
 ·have h1:s=0:=by have:=h.zero;simp only at this;omega
  have h2:em= []:=h.none h0
  subst h1 h2
  have e:cV ([],(a,0)) x=([],x):=by simp [cV,hm]
  rw [e]
  refine ⟨fun _=>hm,by simp only;omega,fun hn=>absurd (show 0 < x.2 by omega) hn,fun _=>⟨x,by simp,rfl⟩,?_⟩
  have hf:bZ ([],(a,0))= []:=by simp [bZ]
  have hf2:bZ ([],x)= []++ [x]:=by simp only [bZ];rw [if_pos oM]
  have hc:=h.canon
  rw [hf]at hc
  rw [hf2]
  refine eB hc oM sM fun p=> ?_
  rw [ef];simp [hm]
theorem invJ (zs:List (Int×Int)) (hs:zs.Pairwise (fun x y=>leS x y=true)):∀k,k≤zs.length→InvJ (zs.take k) (foldJ (zs.take k)):=by
 intro k
 induction k with
 | zero=>intro _;simpa [foldJ]using InvJ.start
 | succ k ih=>
  intro hk
  have h1:=ih oM
  rw [List.take_succ_eq_append_getElem oM,kr]
  refine h1.step fun y hy=> ?_
  obtain ⟨i,hi,rfl⟩:=List.getElem_of_mem hy
  have hi':i < k:=by simp at hi;omega
  rw [List.getElem_take]
  have:=List.pairwise_iff_getElem.1 hs i k oM oM hi'
  rw [cE]at this
  omega
theorem gW (xs:List (Int×Int)):vl xs (dg xs):=by
 have h:=(invJ (sortS xs) (dy xs) _ (Nat.le_refl _)).canon
 rw [List.take_length]at h
 refine Canon.congr h fun p=> ?_
 rw [cG,cG]
 exact ⟨fun ⟨x,hx,h⟩=>⟨x,fh.1 hx,h⟩,fun ⟨x,hx,h⟩=>⟨x,fh.2 hx,h⟩⟩
theorem p7 (zs:List (Int×Int)):(ml zs).length≤zs.length:=by
 have h:∀(l:List (Int×Int)) (st:List (Int×Int)×(Int×Int)),(bZ (l.foldl cV st)).length≤(bZ st).length+l.length:=by
  intro l
  induction l with
  | nil=>intro st;simp
  | cons x l ih=>
   intro st
   refine Nat.le_trans (ih _) ?_
   have:(bZ (cV st x)).length≤(bZ st).length+1:=by
    unfold cV
    split
    ·split
     ·rename_i h
      unfold bZ
      simp only
      rw [if_pos h.1]
      split <;>simp <;>omega
     ·unfold bZ
      simp only
      split <;>split <;>simp
    ·omega
   simp only [List.length_cons]
   omega
 have:=h zs ([],(0,0))
 have h0:bZ ([],(0,0))= []:=by simp [bZ]
 rw [h0,List.length_nil,Nat.zero_add]at this
 exact this
end Go.Proofs.YtphpppjfogpohaaGreat
namespace Go.Proofs.YtphpppjfogpohaaGreat
open Go.RowKit
def cmpZ (a b:Int):Int:=if a < b then -1 else if b < a then 1 else 0
def orZ (p q:Int):Int:=if p=0 then q else p
def byZ (x y:Int×Int):Int:=orZ (cmpZ x.1 y.1) (cmpZ x.2 y.2)
theorem eX {x y:Int×Int}:byZ x y < 0↔leS y x=false:=by
 rw [Bool.eq_false_iff,ne_eq,cE]
 unfold byZ orZ cmpZ
 (repeat' split) <;>omega
theorem jU (a:Int) (w:World):Calls Tryz.prog 218 #[.int .i64 a] w fun e w'=>e= .returned (.bool false)∧Ext w w':=by
 go_enter Tryz.func218,Tryz.ntmps218
 go_wp2
 go_ret
 exact ⟨by simp,zF⟩
theorem p8 (a b:Int) (W:World):Calls Tryz.prog 240 #[.int .i64 a,.int .i64 b] W fun e w'=>e= .returned (.int .i64 (cmpZ a b))∧Ext W w':=by
 have hs0:Ext W W:=AD W
 by_cases h1:a < b
 ·go_enter Tryz.func240,Tryz.ntmps240
  go_wp2_with (go_at_call 218;refine (jU _ _).mono ?_;rintro e w1 ⟨rfl,hx0⟩;have hx:=AF (a:=W) aS hx0;clear hx0)
  go_ret
  exact ⟨aZ (by unfold cmpZ;rw [if_pos h1]),by assumption⟩
 ·by_cases h2:b < a
  ·go_enter Tryz.func240,Tryz.ntmps240
   go_wp2_with (go_at_call 218;refine (jU _ _).mono ?_;rintro e w1 ⟨rfl,hx0⟩;have hx:=AF (a:=W) aS hx0;clear hx0)
   go_ret
   exact ⟨aZ (by unfold cmpZ;rw [if_neg oM,if_pos h2]),by assumption⟩
  ·go_enter Tryz.func240,Tryz.ntmps240
   go_wp2_with (go_at_call 218;refine (jU _ _).mono ?_;rintro e w1 ⟨rfl,hx0⟩;have hx:=AF (a:=W) aS hx0;clear hx0)
   go_ret
   exact ⟨aZ (by unfold cmpZ;rw [if_neg oM,if_neg oM]),by assumption⟩
theorem zJ (p q:Int) (b off c:Nat) (W:World) (h0:W.cell? ⟨b,off,none⟩=some (.int .i64 p)) (h1:W.cell? ⟨b,off+1,none⟩=some (.int .i64 q)):
  Calls Tryz.prog 239 #[.slice (some ⟨b,off,none⟩) 2 c] W fun e w'=>e= .returned (.int .i64 (orZ p q))∧Ext W w':=by
 by_cases hp:p=0
 ·subst hp
  by_cases hq:q=0
  ·subst hq
   go_enter Tryz.func239,Tryz.ntmps239
   go_wp2_with fail
   refine wp_loop_rounds 3 ?_
   rw [rounds_succ]
   go_wp2_with fail
   rw [rounds_succ]
   go_wp2_with fail
   rw [rounds_succ]
   go_wp2_with fail
   go_ret
   exact ⟨aZ (by simp [orZ]),AD _⟩
  ·have hq1:(q !=0)=true:=by simpa using hq
   have HQ:=zH hq
   clear hq
   go_enter Tryz.func239,Tryz.ntmps239
   go_wp2_with fail
   refine wp_loop_rounds 2 ?_
   rw [rounds_succ]
   go_wp2_with fail
   rw [rounds_succ]
   go_wp2_with fail
   go_ret
   exact ⟨aZ (by simp [orZ]),AD _⟩
 ·have hq1:(p !=0)=true:=by simpa using hp
  have HQ:=zH hp
  clear hp
  go_enter Tryz.func239,Tryz.ntmps239
  go_wp2_with fail
  refine wp_loop_rounds 1 ?_
  rw [rounds_succ]
  go_wp2_with fail
  go_ret
  exact ⟨aZ (by unfold orZ;rw [if_neg HQ.out]),AD _⟩
theorem f8 (x y:Int×Int) (w:World):
  Calls Tryz.prog 237 #[.agg #[.int .i64 (x.1),.int .i64 (x.2)],.agg #[.int .i64 (y.1),.int .i64 (y.2)]] w fun e w'=>e= .returned (.int .i64 (byZ x y))∧Ext w w':=by
 obtain ⟨a,s⟩:=x
 obtain ⟨c,d⟩:=y
 show Calls Tryz.prog 237 #[.agg #[.int .i64 (a),.int .i64 (s)],.agg #[.int .i64 (c),.int .i64 (d)]] w fun e w'=>e= .returned (.int .i64 (orZ (cmpZ a c) (cmpZ s d)))∧Ext w w'
 go_enter Tryz.func237,Tryz.ntmps237
 go_wp2_with fail
 have hW:Ext w ((w.alloc (.cells #[.int .i64 a,.int .i64 s] 63)).alloc (.cells #[.int .i64 c,.int .i64 d] 63)):=((AD w).alloc _).alloc _
 have k0:=aa w #[.int .i64 a,.int .i64 s] 63 0 _ rfl
 have k1:=aa w #[.int .i64 a,.int .i64 s] 63 1 _ rfl
 have k2:=aa (w.alloc (.cells #[.int .i64 a,.int .i64 s] 63)) #[.int .i64 c,.int .i64 d] 63 0 _ rfl
 have k3:=aa (w.alloc (.cells #[.int .i64 a,.int .i64 s] 63)) #[.int .i64 c,.int .i64 d] 63 1 _ rfl
 replace k0:∀w',Ext ((w.alloc (.cells #[.int .i64 a,.int .i64 s] 63)).alloc (.cells #[.int .i64 c,.int .i64 d] 63)) w'→_:=fun w' h=>k0 w' (((AD _).alloc _).trans h)
 replace k1:∀w',Ext ((w.alloc (.cells #[.int .i64 a,.int .i64 s] 63)).alloc (.cells #[.int .i64 c,.int .i64 d] 63)) w'→_:=fun w' h=>k1 w' (((AD _).alloc _).trans h)
 simp only [World.size_alloc]at k2 k3
 generalize (w.alloc (.cells #[.int .i64 a,.int .i64 s] 63)).alloc (.cells #[.int .i64 c,.int .i64 d] 63)=W at*
 have hs0:Ext W W:=AD W
 go_region_held3 (fun w1=>Ext W w1) (first | (with_reducible assumption) | (exact AJ aS) | (with_reducible exact AJ (AL aS _)) | (with_reducible exact AL aS _) | (exact AF aS aS)) (first
  | (go_at_call 240;refine (p8 _ _ _).mono ?_;rintro e w1 ⟨rfl,hx⟩)
  | (go_at_call 239;refine Calls.mono (zJ (cmpZ a c) (cmpZ s d) _ _ _ _ sM sM) ?_;rintro e w1 ⟨rfl,hx⟩))
 go_wp2
 go_ret
 exact ⟨rfl,hW.trans (by assumption)⟩
theorem vn:∀(xs:List (Int×Int)) (i:Nat) (a b:Int),((xs.flatMap ac).set (i*2) (.int .i64 a)).set (i*2+1) (.int .i64 b)=(xs.set i (a,b)).flatMap ac:=by
 intro xs
 induction xs with
 | nil=>intro i a b;simp
 | cons x t ih=>
  intro i a b
  cases i with
  | zero=>simp [ac]
  | succ i=>
   have h:=ih i a b
   simp only [List.flatMap_cons,ac,List.cons_append,List.nil_append,List.set_cons_succ,show (i+1)*2=i*2+1+1 by omega]
   rw [←h]
theorem OwnS.store {w:World} {B g N cap:Nat} {xs:List (Int×Int)} (h:OwnS w B (.slice (some ⟨g,0,none⟩) N cap) xs) (hN:xs.length=N) (i:Nat) (a b:Int):
  OwnS ((w.setCell ⟨g,i*2,none⟩ (.int .i64 a)).setCell ⟨g,i*2+1,none⟩ (.int .i64 b)) B (.slice (some ⟨g,0,none⟩) N cap) (xs.set i (a,b)):=by
 unfold OwnS Own at*
 rw [hN]at h
 have h1:=(World.ownsRow.stored (World.ownsRow.stored h (i*2) (.int .i64 a)).1 (i*2+1) (.int .i64 b)).1
 rw [vn]at h1
 rw [List.length_set,hN]
 exact h1
abbrev AY := @OwnS.store
theorem OwnS.at {w:World} {B g N cap:Nat} {xs:List (Int×Int)} (h:OwnS w B (.slice (some ⟨g,0,none⟩) N cap) xs) (hN:xs.length=N) {i:Nat} (hi:i < N):
  w.cell? ⟨g,i*2,none⟩=some (.int .i64 (gt xs i).1)∧w.cell? ⟨g,i*2+1,none⟩=some (.int .i64 (gt xs i).2)∧w.frozen? ⟨g,i*2,none⟩=false∧w.frozen? ⟨g,i*2+1,none⟩=false:=by
 have h':=h
 unfold OwnS Own at h'
 rw [hN]at h'
 have hx:xs[i]?=some (gt xs i):=by rw [vf oM];simp [hN,hi]
 refine ⟨?_,?_,World.ownsRow.frozenAt h' _,World.ownsRow.frozenAt h' _⟩
 ·rw [World.ownsRow.cellAt h' _ oM]
  have:=eY aE dM (l:=xs) (i:=i) (j:=0) hx rfl
  simpa using this
 ·rw [World.ownsRow.cellAt h' _ oM]
  exact eY aE dM (l:=xs) (i:=i) (j:=1) hx rfl
def cv (w:World) (B g N cap:Nat) (S:List (Int×Int)→Prop) (e:Ending) (w':World):Prop:=
 e= .returned (.tuple #[])∧Below B w w'∧∃ys,ys.length=N∧S ys∧OwnS w' B (.slice (some ⟨g,0,none⟩) N cap) ys
def dD (xs:List (Int×Int)) (a b:Nat):Nat→List (Int×Int)
 | 0=>xs
 | n+1=>eJ (dD xs a b n) (a+n) (b+n)
theorem dW (xs:List (Int×Int)) (a b n:Nat):(dD xs a b n).length=xs.length:=by
 induction n with
 | zero=>rfl
 | succ n ih=>rw [dD,eA,ih]
theorem mS (B g N cap a b n:Nat) (xs:List (Int×Int)) (w:World) (hBg:B≤g) (hN:xs.length=N) (hN2:N≤4000000000000) (hab:a+n≤b) (hb:b+n≤N)
  (ho:OwnS w B (.slice (some ⟨g,0,none⟩) N cap) xs):
  Calls Tryz.prog 244 #[.slice (some ⟨g,0,none⟩) N cap,.int .i64 a,.int .i64 b,.int .i64 n,.func (.func 237) #[] #[]] w
   (cv w B g N cap (fun ys=>ys=dD xs a b n)):=by
 have HO:=zH ho
 have HN:=zH hN
 clear ho hN
 go_enter Tryz.func244,Tryz.ntmps244
 go_wp2_with fail
 go_loopw [10] (fun i wr=>∃k:Nat,k≤n∧i= .int .i64 k∧Below B w wr∧OwnS wr B (.slice (some ⟨g,0,none⟩) N cap) (dD xs a b k)) (fun i _=>n - (intOf i).toNat)
 case atStart=>exact ⟨0,by omega,rfl,Below.refl _ _,HO.out⟩
 case round=>
  obtain ⟨k,hk,rfl,hbel,hown⟩:=hrel
  have HW:=zH hown
  have HBL:=zH hbel
  clear hown hbel HO
  by_cases hlt:k < n
  rotate_left
  ·obtain rfl:k=n:=by omega
   go_wp2_with fail
   go_end0
   exact ⟨rfl,HBL.out,_,by rw [dW];exact HN.out,rfl,HW.out⟩
  have hsl:(dD xs a b k).length=N:=by rw [dW];exact HN.out
  obtain ⟨p,hp⟩:∃p,p=a+k:=⟨_,rfl⟩
  obtain ⟨q,hq⟩:∃q,q=b+k:=⟨_,rfl⟩
  obtain ⟨p1,p2,p3,p4⟩:=HW.out.at hsl (show p < N by omega)
  obtain ⟨q1,q2,q3,q4⟩:=HW.out.at hsl (show q < N by omega)
  have HSL:=zH hsl
  have hpq:p < q:=by omega
  have i1:(a:Int)+(k:Int)=(p:Int):=by omega
  have i2:(b:Int)+(k:Int)=(q:Int):=by omega
  have i3:(p:Int) < (N:Int):=by omega
  have i4:(q:Int) < (N:Int):=by omega
  have i5:(0:Int)≤(p:Int):=by omega
  have i6:(0:Int)≤(q:Int):=by omega
  have i7:(N:Int)≤4000000000000:=by omega
  have i8:(k:Int) < (n:Int):=by omega
  have j1:IntKind.i64.wrap (p:Int)=(p:Int):=IntWalk.i64_in _ oM
  have j2:IntKind.i64.wrap (q:Int)=(q:Int):=IntWalk.i64_in _ oM
  have j3:¬p=q:=by omega
  have j4:¬q=p:=by omega
  have j5:¬p*2=q*2+1:=by omega
  have j6:¬q*2+1=p*2:=by omega
  have j7:¬p*2+1=q*2:=by omega
  have j8:¬q*2=p*2+1:=by omega
  have HPQ:=zH (And.intro hp hq)
  clear hsl hp hq
  generalize hgx:gt (dD xs a b k) p=x at*
  generalize hgy:gt (dD xs a b k) q=y at*
  have HX:=zH (And.intro hgx hgy)
  clear hgx hgy
  obtain ⟨x1,x2⟩:=x
  obtain ⟨y1,y2⟩:=y
  simp only at p1 p2 q1 q2
  go_wp2_with fail
  go_region
  go_wp2_with fail
  go_roundw
  case rel=>
   refine ⟨k+1,by omega,by go_num,((((HBL.out.drew).setCell hBg _).setCell hBg _).setCell hBg _).setCell hBg _,?_⟩
   have h1:=AY (w:=wr.drew) HW.out HSL.out p y1 y2
   have h2:=AY h1 (by simp [HSL.out]) q x1 x2
   rw [dD,←HPQ.out.1,←HPQ.out.2,eJ,HX.out.1,HX.out.2]
   exact h2
  case measure=>simp [intOf];omega
end Go.Proofs.YtphpppjfogpohaaGreat
namespace Go.Proofs.YtphpppjfogpohaaGreat
theorem eQ {xs:List (Int×Int)} {a b n:Nat} (hab:a+n≤b) (hb:b+n≤xs.length):∀p,gt (dD xs a b n) p=if a≤p∧p < a+n then gt xs (p - a+b)else if b≤p∧p < b+n then gt xs (p - b+a)else gt xs p:=by
 induction n with
 | zero=>intro p;rw [dD,if_neg oM,if_neg oM]
 | succ n ih=>
  intro p
  have ih:=ih oM oM
  rw [dD,gV (by rw [dW];omega) (by rw [dW];omega),ih,ih,ih]
  (repeat' split) <;>first | (exfalso;omega) | rfl | exact congrArg _ oM
theorem ik {xs:List (Int×Int)} {a b n l r:Nat} (hr:r≤xs.length) (hab:a+n≤b) (hl:l≤a) (hb:b+n≤r):Seg l r xs (dD xs a b n):=by
 induction n with
 | zero=>exact AS _ _ _
 | succ n ih=>exact (ih oM oM).trans (Seg.swap (by rw [dW];exact hr) ⟨by omega,by omega⟩ ⟨by omega,by omega⟩)
def Rot (a m b:Nat) (xs ys:List (Int×Int)):Prop:=∀p,gt ys p=if p < a∨b≤p then gt xs p else if p < a+(b - m)then gt xs (p+(m - a))else gt xs (p - (b - m))
theorem Rot.last {m i:Nat} {xs:List (Int×Int)} (hi:i≤m) (hm:m+i≤xs.length):Rot (m - i) m (m+i) xs (dD xs (m - i) m i):=by
 intro p
 rw [eQ oM oM]
 (repeat' split) <;>first | (exfalso;omega) | rfl | exact congrArg _ oM
theorem Rot.left {m i j:Nat} {xs ys:List (Int×Int)} (hi:i≤m) (hij:j < i) (hm:m+j≤xs.length) (h:Rot (m - (i - j)) m (m+j) (dD xs (m - i) m j) ys):Rot (m - i) m (m+j) xs ys:=by
 intro p
 rw [h p]
 rw [eQ oM oM,eQ oM oM,eQ oM oM]
 (repeat' split) <;>first | (exfalso;omega) | rfl | exact congrArg _ oM
theorem Rot.right {m i j:Nat} {xs ys:List (Int×Int)} (hi:i≤m) (hij:i < j) (hm:m+j≤xs.length) (h:Rot (m - i) m (m+(j - i)) (dD xs (m - i) (m+j - i) i) ys):Rot (m - i) m (m+j) xs ys:=by
 intro p
 rw [h p]
 rw [eQ oM oM,eQ oM oM,eQ oM oM]
 (repeat' split) <;>first | (exfalso;omega) | rfl | exact congrArg _ oM
end Go.Proofs.YtphpppjfogpohaaGreat
