/- Merged by program (merge.py) out of: SortH, SortI, SpanC, SpanD, SpanE, GapSpec, RefGap, GraD, GraE, GraF, GraG. -/
import Derived.WalkSpells
import Derived.Lib.SliceRun
import Derived.Test.YtphpppjfogpohaaGreatMx10
import Derived.Test.YtphpppjfogpohaaGreatMx7
import Derived.Test.YtphpppjfogpohaaGreatMx1
import Derived.Test.YtphpppjfogpohaaGreatMx9
import Derived.Test.YtphpppjfogpohaaGreatMx6
set_option linter.unusedSimpArgs false
set_option linter.unusedVariables false
set_option maxRecDepth 100000
set_option maxHeartbeats 16000000
namespace Go.Proofs.YtphpppjfogpohaaGreat
open Go.RowKit
theorem insSort_z (B g N cap a b:Nat) (xs:List (Int×Int)) (w:World) (x y:Int) (hx:x=a) (hy:y=b) (hB:B≤w.heap.size) (hBg:B≤g) (hN:xs.length=N) (hN2:N≤4000000000000) (hab:a≤b) (hb:b≤N)
  (ho:OwnS w B (.slice (some ⟨g,0,none⟩) N cap) xs):
  Calls Tryz.prog 241 #[.slice (some ⟨g,0,none⟩) N cap,.int .i64 x,.int .i64 y,.func (.func 237) #[] #[]] w
   (InPlace w B g N cap (fun ys=>Seg a b xs ys∧Ordered a b ys)):=by
 subst hx hy
 exact insSort_any B g N cap a b xs w hB hBg hN hN2 hab hb ho
theorem sym_z (B g N cap a m b:Nat) (xs:List (Int×Int)) (w:World) (x y z:Int) (hx:x=a) (hy:y=m) (hz:z=b) (hB:B≤w.heap.size) (hBg:B≤g) (hN:xs.length=N) (hN2:N≤4000000000000) (ham:a < m) (hmb:m < b) (hb:b≤N)
  (hoA:Ordered a m xs) (hoB:Ordered m b xs) (ho:OwnS w B (.slice (some ⟨g,0,none⟩) N cap) xs):
  Calls Tryz.prog 242 #[.slice (some ⟨g,0,none⟩) N cap,.int .i64 x,.int .i64 y,.int .i64 z,.func (.func 237) #[] #[]] w
   (InPlace w B g N cap (fun ys=>Seg a b xs ys∧Ordered a b ys)):=by
 subst hx hy hz
 exact sym_any B g N cap a m b xs w hB hBg hN hN2 ham hmb hb hoA hoB ho
def Stab1 (w:World) (B g N cap:Nat) (xs:List (Int×Int)) (va vb:Value) (wr:World):Prop:=
 ∃(a:Nat) (zs:List (Int×Int)),va= .int .i64 a∧vb= .int .i64 ((a:Int)+20)∧a≤N∧Below B w wr∧zs.length=N∧Seg 0 N xs zs∧DBlk 20 zs a∧OwnS wr B (.slice (some ⟨g,0,none⟩) N cap) zs
def Stab2 (w:World) (B g N cap:Nat) (xs:List (Int×Int)) (vs:Value) (wr:World):Prop:=
 ∃(s:Nat) (zs:List (Int×Int)),vs= .int .i64 s∧0 < s∧s≤8000000000000∧Below B w wr∧zs.length=N∧Seg 0 N xs zs∧Blk s N zs 0∧OwnS wr B (.slice (some ⟨g,0,none⟩) N cap) zs
def Stab3 (w:World) (B g N cap s:Nat) (xs:List (Int×Int)) (va vb:Value) (wr:World):Prop:=
 ∃(a:Nat) (zs:List (Int×Int)),va= .int .i64 a∧vb= .int .i64 ((a:Int)+2*(s:Int))∧a≤N∧Below B w wr∧zs.length=N∧Seg 0 N xs zs∧DBlk (2*s) zs a∧Blk s N zs a∧OwnS wr B (.slice (some ⟨g,0,none⟩) N cap) zs
theorem stable_any (B g N cap:Nat) (xs:List (Int×Int)) (w:World) (hB:B≤w.heap.size) (hBg:B≤g) (hN:xs.length=N) (hN2:N≤4000000000000)
  (ho:OwnS w B (.slice (some ⟨g,0,none⟩) N cap) xs):
  Calls Tryz.prog 238 #[.slice (some ⟨g,0,none⟩) N cap,.int .i64 N,.func (.func 237) #[] #[]] w
   (InPlace w B g N cap (fun ys=>Seg 0 N xs ys∧Ordered 0 N ys)):=by
 have HO:=zH ho
 have HN:=zH hN
 clear ho hN
 have i0:(N:Int)≤4000000000000:=by omega
 go_enter Tryz.func238,Tryz.ntmps238
 go_wp2_with fail
 go_loopw [7,8] (fun a b wr=>Stab1 w B g N cap xs a b wr) (fun a _ _=>N - (intOf a).toNat)
 case atStart=>exact ⟨0,xs,rfl,rfl,by omega,Below.refl _ _,HN.out,Seg.refl _ _ _,DBlk.zero,HO.out⟩
 case round=>
  obtain ⟨a,zs,rfl,rfl,haN,hbel,hzl,hseg,hdb,hown⟩:=hrel
  have HW:=zH hown
  have HBL:=zH hbel
  have HY:=zH hzl
  have HSG:=zH hseg
  have HD:=zH hdb
  clear hown hbel hzl hseg hdb HO HN
  have hsz:B≤wr.heap.size:=by have:=HBL.out.size;omega
  by_cases hlt:a+20≤N
  ·have k1:(a:Int)+20≤(N:Int):=by omega
   go_wp2_with fail
   refine (insSort_z B g N cap a (a+20) zs _ _ _ (by omega) (by omega) hsz hBg HY.out hN2 (by omega) (by omega) HW.out).mono ?_
   rintro e w1 ⟨rfl,hb1,ys,hyl,⟨hs1,ho1⟩,hw1⟩
   have H1:=zH hw1
   have H2:=zH hyl
   have H3:=zH (HBL.out.trans hb1)
   have H4:=zH (HSG.out.trans (hs1.mono (by omega:0≤a) (by omega:a+20≤N)))
   have H5:=zH (DBlk.snoc a (HD.out.congr fun i hi=>hs1.out i (by omega)) ho1)
   clear hw1 hyl hb1 hs1 ho1
   go_wp2_with fail
   go_roundw
   case rel=>exact ⟨a+20,ys,by go_num,by congr 1,by omega,H3.out,H2.out,H4.out,H5.out,H1.out⟩
   case measure=>simp [intOf];omega
  ·have k1:(N:Int) < (a:Int)+20:=by omega
   go_wp2_with fail
   refine (insSort_z B g N cap a N zs _ _ _ rfl rfl hsz hBg HY.out hN2 (by omega) (by omega) HW.out).mono ?_
   rintro e w1 ⟨rfl,hb1,ys,hyl,⟨hs1,ho1⟩,hw1⟩
   have H1:=zH hw1
   have H2:=zH hyl
   have H3:=zH (HBL.out.trans hb1)
   have H4:=zH (HSG.out.trans (hs1.mono (by omega:0≤a) (by omega:N≤N)))
   have H5:=zH (DBlk.all (N:=N) (HD.out.congr fun i hi=>hs1.out i (by omega)) (Blk.last a haN (by omega) ho1) haN)
   clear hw1 hyl hb1 hs1 ho1 HW HBL HY HSG HD hsz
   go_wp2_with fail
   go_loopw [6,7,8,9] (fun s _ _ _ wr=>Stab2 w B g N cap xs s wr) (fun s _ _ _ _=>N - (intOf s).toNat)
   case atStart=>exact ⟨20,ys,rfl,by omega,by omega,H3.out,H2.out,H4.out,H5.out,H1.out⟩
   case round=>
    clear H1 H2 H3 H4 H5
    obtain ⟨s,zs,rfl,hs0,hs8,hbel,hzl,hseg,hbk,hown⟩:=hrel
    have HW:=zH hown
    have HBL:=zH hbel
    have HY:=zH hzl
    have HSG:=zH hseg
    have HK:=zH hbk
    clear hown hbel hzl hseg hbk
    by_cases hlt:s < N
    rotate_left
    ·have k2:(N:Int)≤(s:Int):=by omega
     have k3:decide (s < N)=false:=by simp;omega
     go_wp2_with fail
     go_end0
     exact ⟨rfl,HBL.out,zs,HY.out,⟨HSG.out,HK.out.one (by omega)⟩,HW.out⟩
    have k2:(s:Int) < (N:Int):=by omega
    have k3:(0:Int) < (s:Int):=by omega
    go_wp2_with fail
    go_loopw [7,8] (fun a b wr=>Stab3 w B g N cap s xs a b wr) (fun a _ _=>N - (intOf a).toNat)
    case atStart=>exact ⟨0,zs,rfl,by congr 1;omega,by omega,HBL.out,HY.out,HSG.out,DBlk.zero,HK.out,HW.out⟩
    case round=>
     clear HW HBL HY HSG HK
     obtain ⟨c,ys,rfl,rfl,hcN,hbel,hzl,hseg,hdb,hbk,hown⟩:=hrel
     have HW:=zH hown
     have HBL:=zH hbel
     have HY:=zH hzl
     have HSG:=zH hseg
     have HD:=zH hdb
     have HK:=zH hbk
     clear hown hbel hzl hseg hdb hbk
     have hsz:B≤wr.heap.size:=by have:=HBL.out.size;omega
     by_cases hlt2:c+2*s≤N
     ·have k4:(c:Int)+2*(s:Int)≤(N:Int):=by omega
      obtain ⟨o1,o2,hrest⟩:=HK.out.two hs0 hlt2
      have HR:=zH hrest
      clear hrest
      go_wp2_with fail
      refine (sym_z B g N cap c (c+s) (c+2*s) ys _ _ _ _ (by omega) (by omega) (by omega) hsz hBg HY.out hN2 (by omega) (by omega) hlt2 o1 o2 HW.out).mono ?_
      rintro e w2 ⟨rfl,hb1,ts,hyl,⟨hs1,ho1⟩,hw1⟩
      have H1:=zH hw1
      have H2:=zH hyl
      have H3:=zH (HBL.out.trans hb1)
      have H4:=zH (HSG.out.trans (hs1.mono (by omega:0≤c) hlt2))
      have H5:=zH (DBlk.snoc c (HD.out.congr fun i hi=>hs1.out i (by omega)) ho1)
      have H6:=zH (HR.out.congr fun i hi=>hs1.out i (by omega))
      clear hw1 hyl hb1 hs1 ho1 o1 o2
      go_wp2_with fail
      go_roundw
      case rel=>exact ⟨c+2*s,ts,by go_num,by congr 1,by omega,H3.out,H2.out,H4.out,H5.out,H6.out,H1.out⟩
      case measure=>simp [intOf];omega
     ·have k4:(N:Int) < (c:Int)+2*(s:Int):=by omega
      by_cases hms:c+s < N
      ·have k5:(c:Int)+(s:Int) < (N:Int):=by omega
       obtain ⟨o1,o2⟩:=HK.out.lastTwo hms (by omega)
       go_wp2_with fail
       refine (sym_z B g N cap c (c+s) N ys _ _ _ _ (by omega) (by omega) (by omega) hsz hBg HY.out hN2 (by omega) (by omega) (by omega) o1 o2 HW.out).mono ?_
       rintro e w2 ⟨rfl,hb1,ts,hyl,⟨hs1,ho1⟩,hw1⟩
       have H1:=zH hw1
       have H2:=zH hyl
       have H3:=zH (HBL.out.trans hb1)
       have H4:=zH (HSG.out.trans (hs1.mono (by omega:0≤c) (by omega:N≤N)))
       have H5:=zH (DBlk.all (N:=N) (HD.out.congr fun i hi=>hs1.out i (by omega)) (Blk.last c hcN (by omega) ho1) hcN)
       clear hw1 hyl hb1 hs1 ho1 o1 o2
       go_wp2_with fail
       go_roundw
       case rel=>exact ⟨2*s,ts,by congr 1;omega,by omega,by omega,H3.out,H2.out,H4.out,H5.out,H1.out⟩
       case measure=>simp [intOf];omega
      ·have k5:(N:Int)≤(c:Int)+(s:Int):=by omega
       have H5:=zH (DBlk.all (N:=N) HD.out (Blk.last c hcN (by omega) (HK.out.one (by omega))) hcN)
       go_wp2_with fail
       go_roundw
       case rel=>exact ⟨2*s,ys,by congr 1;omega,by omega,by omega,HBL.out,HY.out,HSG.out,H5.out,HW.out⟩
       case measure=>simp [intOf];omega
theorem sortStable_any (B g N cap:Nat) (xs:List (Int×Int)) (w:World) (hB:B≤w.heap.size) (hBg:B≤g) (hN:xs.length=N) (hN2:N≤4000000000000)
  (ho:OwnS w B (.slice (some ⟨g,0,none⟩) N cap) xs):
  Calls Tryz.prog 236 #[.slice (some ⟨g,0,none⟩) N cap,.func (.func 237) #[] #[]] w
   (InPlace w B g N cap (fun ys=>Seg 0 N xs ys∧Ordered 0 N ys)):=by
 have HO:=zH ho
 have HN:=zH hN
 clear ho hN
 go_enter Tryz.func236,Tryz.ntmps236
 go_wp2_with fail
 refine (stable_any B g N cap xs _ hB hBg HN.out hN2 HO.out).mono ?_
 rintro e w1 ⟨rfl,hb1,ys,hyl,hs1,hw1⟩
 have H1:=zH hw1
 have H2:=zH hyl
 have H3:=zH hb1
 have H4:=zH hs1
 clear hw1 hyl hb1 hs1
 go_wp2_with fail
 go_end0
 exact ⟨rfl,H3.out,ys,H2.out,H4.out,H1.out⟩
theorem Ordered.all {N:Nat} {ys:List (Int×Int)} (h:Ordered 0 N ys) (hl:ys.length=N):ys.Pairwise (fun x y=>leS x y=true):=by
 rw [List.pairwise_iff_getElem]
 intro i j hi hj hij
 have:=h i j (by omega) hij (by omega)
 simpa [gt,List.getElem?_eq_getElem hi,List.getElem?_eq_getElem hj]using this
theorem insSort_nil (w:World):
  Calls Tryz.prog 241 #[.slice none 0 0,.int .i64 0,.int .i64 0,.func (.func 237) #[] #[]] w fun e w'=>e= .returned (.tuple #[])∧Ext w w':=by
 go_enter Tryz.func241,Tryz.ntmps241
 go_wp2_with fail
 go_loopw [8] (fun i wr=>i= .int .i64 1∧Ext w wr) (fun _ _=>0)
 case atStart=>exact ⟨rfl,Ext.refl _⟩
 case round=>
  obtain ⟨rfl,hx⟩:=hrel
  go_wp2_with fail
  go_end0
  exact ⟨rfl,hx⟩
theorem stable_nil (w:World):
  Calls Tryz.prog 238 #[.slice none 0 0,.int .i64 0,.func (.func 237) #[] #[]] w fun e w'=>e= .returned (.tuple #[])∧Ext w w':=by
 go_enter Tryz.func238,Tryz.ntmps238
 go_wp2_with fail
 go_loopw [7,8] (fun a b wr=>a= .int .i64 0∧b= .int .i64 20∧Ext w wr) (fun _ _ _=>0)
 case atStart=>exact ⟨rfl,rfl,Ext.refl _⟩
 case round=>
  obtain ⟨rfl,rfl,hx⟩:=hrel
  go_wp2_with fail
  refine (insSort_nil _).mono ?_
  rintro e w1 ⟨rfl,hx1⟩
  replace hx:=hx.trans hx1
  clear hx1
  go_wp2_with fail
  go_loopw [6] (fun s wr=>s= .int .i64 20∧Ext w wr) (fun _ _=>0)
  case atStart=>exact ⟨rfl,hx⟩
  case round=>
   obtain ⟨rfl,hx⟩:=hrel
   go_wp2_with fail
   go_end0
   exact ⟨rfl,hx⟩
theorem sortStable_nil (w:World):
  Calls Tryz.prog 236 #[.slice none 0 0,.func (.func 237) #[] #[]] w fun e w'=>e= .returned (.tuple #[])∧Ext w w':=by
 go_enter Tryz.func236,Tryz.ntmps236
 go_wp2_with fail
 refine (stable_nil _).mono ?_
 rintro e w1 ⟨rfl,hx⟩
 go_wp2_with fail
 go_end0
 exact ⟨rfl,hx⟩
theorem clone_none (cap:Nat) (W:World):
  Calls Tryz.prog 83 #[.slice none 0 cap] W fun e w'=>e= .returned (.slice none 0 0)∧Ext W w':=by
 have he:=fun w=>Lib.run_eql_slice_nil (P:=Tryz.prog) w 31 63 none 0 cap 0 0 Tryz.underlying31
 simp only [Option.isNone_none]at he
 go_enter Tryz.func83,Tryz.ntmps83
 go_wp2_with fail
 go_ret
 exact ⟨rfl,Ext.refl _⟩
theorem clone_some (ad:Addr) (cap:Nat) (xs:List (Int×Int)) (W:World) (hlen:xs.length≤4000000000000) (hl:SpansAt W (some ad) xs):
  Calls Tryz.prog 83 #[.slice (some ad) xs.length cap] W fun e w'=>∃g cap,e= .returned (.slice (some ⟨g,0,none⟩) xs.length cap)∧OwnS w' W.heap.size (.slice (some ⟨g,0,none⟩) xs.length cap) xs∧Below W.heap.size W w':=by
 have he:=fun w=>Lib.run_eql_slice_nil (P:=Tryz.prog) w 31 63 (some ad) xs.length cap 0 0 Tryz.underlying31
 simp only [Option.isNone_some]at he
 have HL:=zH hl
 clear hl
 go_enter Tryz.func83,Tryz.ntmps83
 go_wp2_with (at_builtin;refine wpList_app rfl (.tmp 5) (.tmp 6) 31 rfl spanInfo spanCells rfl (by exact Own.empty 63 2 spanC W W.heap.size (Nat.le_refl _)) xs ad cap xs.length xs.length (by simp) rfl rfl (by exact RowAt.ext HL.out ((Ext.refl _).alloc _)) (by omega) (by simp [maxLen];try omega) (by simp) ?_;intro A3 cap3 w3 hown3 hgr3 hat3;have HO3:=zH hown3;have hX3:Ext W w3:=Own.below (Own.empty 63 2 spanC W W.heap.size (Nat.le_refl _)) ((Below.refl _ _).alloc (Nat.le_refl _) _) hgr3 (by simp);have HT:=zH hat3;clear hown3 hgr3 hat3)
 have hA:∃g,A3=some ⟨g,0,none⟩:=by
  rcases HO3.out.2 with ⟨h,_⟩ | ⟨g,_,_,h,_⟩
  ·exfalso
   have:=HT.out
   injection h with h1 h2 h3
   subst h1
   simp [Value.ownBlock,Act.eval]at this
  ·injection h with h1 h2 h3
   exact ⟨g,h1⟩
 obtain ⟨g,rfl⟩:=hA
 go_ret
 exact ⟨g,cap3,rfl,by simpa using HO3.out,hX3⟩
theorem sort_any (A:Option Addr) (cap:Nat) (xs:List (Int×Int)) (W:World) (hlen:xs.length≤1000000) (hl:SpansAt W A xs):
  Calls Tryz.prog 235 #[.slice A xs.length cap] W (RetS W W.heap.size (sortS xs)):=by
 have HL:=zH hl
 clear hl
 cases A with
 | none=>
  obtain rfl:=row_none HL.out
  simp only [List.length_nil]
  go_enter Tryz.func235,Tryz.ntmps235
  go_wp2_with fail
  refine (clone_none _ _).mono ?_
  rintro e w1 ⟨rfl,hx⟩
  go_wp2_with fail
  refine (sortStable_nil _).mono ?_
  rintro e w2 ⟨rfl,hx2⟩
  have hx':=hx.trans hx2
  clear hx hx2
  go_wp2_with fail
  go_ret
  exact ⟨_,rfl,by rw [show sortS []= []from by simp [sortS]];exact Own.nil _ _ _ _ _,hx'⟩
 | some ad=>
  go_enter Tryz.func235,Tryz.ntmps235
  go_wp2_with fail
  refine (clone_some ad cap xs _ (by omega) HL.out).mono ?_
  rintro e w1 ⟨g,cap1,rfl,ho,hb⟩
  have HO:=zH ho
  have HB:=zH hb
  clear ho hb
  have hg:W.heap.size≤g:=by
   rcases HO.out.2 with ⟨h,_⟩ | ⟨g',_,_,h,hb,_⟩
   ·simp at h
   ·simp at h;omega
  go_wp2_with fail
  refine (sortStable_any W.heap.size g xs.length cap1 xs _ (Ext.size HB.out) hg rfl (by omega) HO.out).mono ?_
  rintro e w2 ⟨rfl,hb2,ys,hyl,⟨hs,hord⟩,ho2⟩
  have HO2:=zH ho2
  have HB2:=zH (HB.out.trans hb2)
  have HS:=zH hs
  have HD:=zH hord
  have HY:=zH hyl
  clear ho2 hb2 hs hord hyl
  go_wp2_with fail
  go_ret
  have he:sortS xs=ys:=(sortS_unique (Seg.perm HS.out) (Ordered.all HD.out HY.out)).symm
  exact ⟨_,rfl,by rw [he];exact HO2.out,HB2.out⟩
theorem same_of {xs ys:List (Int×Int)} (hl:xs.length=ys.length) (h:∀i,i < xs.length→xs.getD i (0,0)=ys.getD i (0,0)):xs=ys:=by
 refine List.ext_getElem hl fun i h1 h2=> ?_
 have:=h i h1
 simpa [List.getElem?_eq_getElem h1,List.getElem?_eq_getElem h2]using this
theorem refsame_any (A A2:Option Addr) (cap cap2:Nat) (xs ys:List (Int×Int)) (W:World) (hlen:xs.length≤9223372036854775807) (hlen2:ys.length≤9223372036854775807) (hl:SpansAt W A xs) (hl2:SpansAt W A2 ys):
  Calls Tryz.prog 55 #[.slice A xs.length cap,.slice A2 ys.length cap2] W fun e w'=>e= .returned (.bool (decide (xs=ys)))∧Ext W w':=by
 have HL:=zH hl
 have HL2:=zH hl2
 clear hl hl2
 by_cases hne:xs.length=ys.length
 rotate_left
 ·have h1:((xs.length:Int) !=(ys.length:Int))=true:=by rw [bne_iff_ne];omega
  have h2:decide (xs=ys)=false:=by simp;intro e;subst e;exact hne rfl
  have HR:=zH h2
  clear h2 hne
  go_enter Tryz.func55,Tryz.ntmps55
  go_wp2_with fail
  go_ret
  exact ⟨ret_bool (by rw [HR.out]),Ext.refl _⟩
 have HN:=zH hne
 have h1:((xs.length:Int) !=(ys.length:Int))=false:=by rw [←HN.out];simp
 clear hne
 go_enter Tryz.func55,Tryz.ntmps55
 go_wp2_with fail
 go_loopw [5] (fun i wr=>∃k:Nat,k≤xs.length∧i= .int .i64 k∧Ext W wr∧Hid (∀i,i < k→xs.getD i (0,0)=ys.getD i (0,0))) (fun i _=>xs.length - (intOf i).toNat)
 case atStart=>exact ⟨0,by omega,rfl,Ext.refl _,zH (by omega)⟩
 case round=>
  obtain ⟨k,hk,rfl,hxr,hq⟩:=hrel
  by_cases hlt:k < xs.length
  rotate_left
  ·have HR:=zH (same_of HN.out (fun i hi=>hq.out i (by omega)))
   clear hq
   go_wp2_with fail
   go_ret
   exact ⟨ret_bool (by simp [HR.out]),hxr⟩
  have hlt2:k < ys.length:=by have:=HN.out;omega
  obtain ⟨lb,off,rfl,hc⟩:=HL.out.get (by omega)
  obtain ⟨lb2,off2,rfl,hc2⟩:=HL2.out.get (by omega)
  obtain ⟨e1,e2⟩:=spans_cell hc hlt
  obtain ⟨e3,e4⟩:=spans_cell hc2 hlt2
  have c1:=hxr.cell e1
  have c2:=hxr.cell e2
  have c3:=hxr.cell e3
  have c4:=hxr.cell e4
  have HS:=zH (fun (h:xs.getD k (0,0)=ys.getD k (0,0))=>(fun i (hi:i < k+1)=>by
   rcases Nat.lt_or_ge i k with h' | h'
   ·exact hq.out i h'
   ·obtain rfl:i=k:=by omega
    exact h:∀i,i < k+1→xs.getD i (0,0)=ys.getD i (0,0)))
  have HD:=zH (fun (h:xs.getD k (0,0)≠ys.getD k (0,0))=>(fun e:xs=ys=>h (by rw [e]):xs≠ys))
  clear e1 e2 e3 e4 hc hc2 HL HL2 hq HN
  generalize xs.getD k (0,0)=x at*
  generalize ys.getD k (0,0)=y at*
  obtain ⟨a,s⟩:=x
  obtain ⟨c,d⟩:=y
  simp only at c1 c2 c3 c4
  have ib1:(k:Int) < (xs.length:Int):=by omega
  have ib2:(k:Int) < (ys.length:Int):=by omega
  have ib3:(0:Int)≤(k:Int):=by omega
  by_cases he:a=c∧s=d
  ·obtain ⟨rfl,rfl⟩:=he
   go_wp2_with fail
   go_quiet (fail)
   go_wp2_with fail
   go_roundw
   case rel=>exact ⟨k+1,by omega,by go_num,hxr.drewN _,zH (HS.out (by first | rfl | trivial))⟩
   case measure=>simp [intOf];omega
  ·have HE:=zH (HD.out (by intro e;injection e with e1 e2;exact he ⟨e1,e2⟩))
   have hb:(a==c)=false∨(a=c∧(s==d)=false):=by
    by_cases h1:a=c
    ·exact .inr ⟨h1,by rw [beq_eq_false_iff_ne];exact fun h=>he ⟨h1,h⟩⟩
    ·exact .inl (by rw [beq_eq_false_iff_ne];exact h1)
   clear he HD HS
   rcases hb with hb | ⟨rfl,hb⟩
   all_goals
    go_wp2_with fail
    go_quiet (fail)
    go_wp2_with fail
    go_ret
    exact ⟨ret_bool (decide_eq_false HE.out).symm,hxr.drewN _⟩
def chainB (zs:List (Int×Int)):Bool:=decide (∀i,i < zs.length→mayB (zs.getD i (0,0)).1 (zs.getD i (0,0)).2=true∧∀j,j < i→j+1=i→(zs.getD j (0,0)).1+(zs.getD j (0,0)).2≤(zs.getD i (0,0)).1)
theorem chain_yes {zs:List (Int×Int)} (h:∀i,i < zs.length→mayB (zs.getD i (0,0)).1 (zs.getD i (0,0)).2=true∧∀j,j < i→j+1=i→(zs.getD j (0,0)).1+(zs.getD j (0,0)).2≤(zs.getD i (0,0)).1):chainB zs=true:=decide_eq_true h
theorem chain_no2 {zs:List (Int×Int)} {j:Nat} (hi:j+1 < zs.length) (h:(zs.getD (j+1) (0,0)).1 < (zs.getD j (0,0)).1+(zs.getD j (0,0)).2):chainB zs=false:=
 decide_eq_false fun H=>by have:=(H (j+1) hi).2 j (by omega) rfl;omega
theorem RetS.open {w:World} {xs:List (Int×Int)} {e:Ending} {w':World} (h:RetS w w.heap.size xs e w'):∃A cap,e= .returned (.slice A xs.length cap)∧SpansAt w' A xs∧Ext w w':=by
 obtain ⟨v,rfl,ho,hb⟩:=h
 obtain ⟨A,cap,rfl,hr,_⟩:=ho.form spanCells (by decide)
 exact ⟨A,cap,rfl,hr,hb⟩
end Go.Proofs.YtphpppjfogpohaaGreat
namespace Go.Proofs.YtphpppjfogpohaaGreat
def LeftB (a s:Int) (xs:List (Int×Int)) (p:Int):Prop:=hasB a s p=true∧coveredB xs p=false
def GapsOf (a s:Int) (xs zs:List (Int×Int)):Prop:=Canon zs (LeftB a s xs)
def stepG (st:List (Int×Int)×Int) (x:Int×Int):List (Int×Int)×Int:=(if st.2 < x.1 then st.1++ [(st.2,x.1 - st.2)]else st.1,max st.2 (x.1+x.2))
def foldG (a:Int) (l:List (Int×Int)):List (Int×Int)×Int:=l.foldl stepG ([],a)
def restG (a s:Int) (st:List (Int×Int)×Int):List (Int×Int):=if st.2 < a+s then st.1++ [(st.2,a+s - st.2)]else st.1
theorem foldG_snoc (a:Int) (l:List (Int×Int)) (x:Int×Int):foldG a (l++ [x])=stepG (foldG a l) x:=by simp [foldG]
structure InvG (a:Int) (l:List (Int×Int)) (st:List (Int×Int)×Int):Prop where
 canon:Canon st.1 (fun p=>a≤p∧p < st.2∧¬∃x∈l,InS x p)
 lt:∀y∈st.1,y.1+y.2 < st.2
 ends:∀x∈l,x.1+x.2≤st.2
 att:st.2=a∨∃x∈l,st.2=x.1+x.2
 ge:a≤st.2
theorem InvG.step {a:Int} {l:List (Int×Int)} {st:List (Int×Int)×Int} {x:Int×Int} (h:InvG a l st) (hx:1≤x.2) (hl:∀y∈l,y.1+y.2 < x.1):InvG a (l++ [x]) (stepG st x):=by
 obtain ⟨out,at0⟩:=st
 obtain ⟨hc,hlt,he,ha,hg⟩:=h
 simp only at hc hlt he ha hg
 have hpre:∀p,(∃y∈l++ [x],InS y p)↔(∃y∈l,InS y p)∨InS x p:=by
  intro p
  constructor
  ·rintro ⟨y,hy,hp⟩
   rw [List.mem_append,List.mem_singleton]at hy
   rcases hy with hy | rfl
   ·exact .inl ⟨y,hy,hp⟩
   ·exact .inr hp
  ·rintro (⟨y,hy,hp⟩ | hp)
   ·exact ⟨y,by simp [hy],hp⟩
   ·exact ⟨x,by simp,hp⟩
 have hno:∀p,at0≤p→¬∃y∈l,InS y p:=by
  rintro p hp ⟨y,hy,h1,h2⟩
  have:=he y hy
  omega
 have ends':∀y∈l++ [x],y.1+y.2≤max at0 (x.1+x.2):=by
  intro y hy
  rw [List.mem_append,List.mem_singleton]at hy
  rcases hy with hy | rfl
  ·have:=he y hy;omega
  ·omega
 by_cases hj:at0 < x.1
 ·have e:stepG (out,at0) x=(out++ [(at0,x.1 - at0)],max at0 (x.1+x.2)):=by simp [stepG,hj]
  rw [e]
  refine ⟨canon_append hc (by simp only;omega) hlt fun p=> ?_,fun y hy=> ?_,ends',.inr ⟨x,by simp,by simp only;omega⟩,by simp only;omega⟩
  ·simp only [hpre p]
   constructor
   ·rintro ⟨h1,h2,h3⟩
    by_cases hp:p < at0
    ·exact .inl ⟨h1,hp,fun h=>h3 (.inl h)⟩
    ·refine .inr ⟨by simp only;omega,?_⟩
     have:¬InS x p:=fun h=>h3 (.inr h)
     simp only [InS]at this⊢
     omega
   ·rintro (⟨h1,h2,h3⟩ | ⟨h1,h2⟩)
    ·exact ⟨h1,by omega,fun h=>h.elim h3 (fun ⟨h4,_⟩=>by omega)⟩
    ·simp only at h1 h2
     exact ⟨by omega,by omega,fun h=>h.elim (hno p h1) (fun ⟨h4,_⟩=>by omega)⟩
  ·rw [List.mem_append,List.mem_singleton]at hy
   rcases hy with hy | rfl
   ·have:=hlt y hy;simp only;omega
   ·simp only;omega
 ·have e:stepG (out,at0) x=(out,max at0 (x.1+x.2)):=by simp [stepG,hj]
  have hat:at0=a:=by
   rcases ha with h | ⟨y,hy,h⟩
   ·exact h
   ·have:=hl y hy;omega
  rw [e]
  refine ⟨hc.congr fun p=> ?_,fun y hy=>by have:=hlt y hy;simp only;omega,ends',?_,by simp only;omega⟩
  ·simp only [hpre p]
   constructor
   ·rintro ⟨h1,h2,h3⟩;omega
   ·rintro ⟨h1,h2,h3⟩
    exfalso
    have:¬InS x p:=fun h=>h3 (.inr h)
    simp only [InS]at this
    omega
  ·by_cases hm:at0≤x.1+x.2
   ·exact .inr ⟨x,by simp,by simp only;omega⟩
   ·exact .inl (by simp only;omega)
theorem InvG.start (a:Int):InvG a [] ([],a):=⟨Canon.nil (by intro p;simp only;omega),by simp,by simp,.inl rfl,Int.le_refl _⟩
theorem invG (a:Int) (js:List (Int×Int)) (hp:∀x∈js,1≤x.2) (ha:js.Pairwise (fun x y=>x.1+x.2 < y.1)):∀pre,pre <+:js→InvG a pre (foldG a pre):=by
 intro pre
 obtain ⟨n,hn⟩:∃n,pre.length=n:=⟨_,rfl⟩
 induction n generalizing pre with
 | zero=>
  intro _
  obtain rfl:=List.eq_nil_of_length_eq_zero hn
  exact InvG.start a
 | succ n ih=>
  intro h
  rcases List.eq_nil_or_concat pre with rfl | ⟨ys,x,rfl⟩
  ·simp at hn
  rw [List.concat_eq_append]at*
  have hys:ys <+:js:=(List.prefix_append ys [x]).trans h
  rw [foldG_snoc]
  have hpw:=ha.sublist h.sublist
  rw [List.pairwise_append]at hpw
  exact (ih ys (by simpa using hn) hys).step (hp x (h.subset (by simp))) fun y hy=>hpw.2.2 y hy x (by simp)
theorem gaps_all {a s:Int} {xs js:List (Int×Int)} (hm:mayB a s=true) (hj:JoinOf xs js) {pre:List (Int×Int)} (hpre:pre <+:js) (hlt:∀x∈pre,x.1 < a+s)
  (hrest:pre=js∨∃x,pre++ [x] <+:js∧a+s≤x.1):GapsOf a s xs (restG a s (foldG a pre)):=by
 have hI:=invG a js hj.pos hj.apart pre hpre
 have hmb:=may_bd hm
 have hcov:∀p,p < a+s→(coveredB xs p=true↔∃x∈pre,InS x p):=by
  intro p hp
  rw [←hj.mem p]
  constructor
  ·rintro ⟨y,hy,h1,h2⟩
   rcases hrest with rfl | ⟨x,⟨tl,ht⟩,hx⟩
   ·exact ⟨y,hy,h1,h2⟩
   ·rw [←ht,List.mem_append,List.mem_append,List.mem_singleton]at hy
    rcases hy with (hy | rfl) | hy
    ·exact ⟨y,hy,h1,h2⟩
    ·omega
    ·have hap:=hj.apart
     rw [←ht,List.pairwise_append]at hap
     have:=hap.2.2 x (by simp) y hy
     have:=hj.pos x (by rw [←ht];simp)
     omega
  ·rintro ⟨y,hy,h⟩
   exact ⟨y,hpre.subset hy,h⟩
 generalize foldG a pre=st at*
 obtain ⟨out,at0⟩:=st
 obtain ⟨hc,hl,he,ha,hg⟩:=hI
 simp only at hc hl he ha hg
 have hleft:∀p,LeftB a s xs p↔a≤p∧p < a+s∧¬∃x∈pre,InS x p:=by
  intro p
  unfold LeftB
  rw [hasB_iff]
  constructor
  ·rintro ⟨⟨_,h1,h2⟩,h3⟩
   exact ⟨h1,h2,fun h=>by rw [(hcov p h2).2 h]at h3;cases h3⟩
  ·rintro ⟨h1,h2,h3⟩
   refine ⟨⟨hm,h1,h2⟩,?_⟩
   cases hb:coveredB xs p
   ·rfl
   ·exact absurd ((hcov p h2).1 hb) h3
 have hno:∀p,at0≤p→¬∃y∈pre,InS y p:=by
  rintro p hp ⟨y,hy,h1,h2⟩
  have:=he y hy
  omega
 unfold restG GapsOf
 by_cases hr:at0 < a+s
 ·rw [if_pos hr]
  refine canon_append hc (by simp only;omega) hl fun p=> ?_
  rw [hleft p]
  constructor
  ·rintro ⟨h1,h2,h3⟩
   by_cases hp:p < at0
   ·exact .inl ⟨h1,hp,h3⟩
   ·exact .inr ⟨by simp only;omega,by simp only;omega⟩
  ·rintro (⟨h1,h2,h3⟩ | ⟨h1,h2⟩)
   ·exact ⟨h1,by omega,h3⟩
   ·simp only at h1 h2
    exact ⟨by omega,by omega,hno p h1⟩
 ·rw [if_neg hr]
  refine hc.congr fun p=> ?_
  rw [hleft p]
  constructor
  ·rintro ⟨h1,h2,h3⟩
   refine ⟨h1,?_,h3⟩
   rcases ha with h | ⟨y,hy,h⟩
   ·omega
   ·rcases Int.lt_or_le p (a+s)with h4 | h4
    ·exact h4
    ·have:=hlt y hy
     exact absurd ⟨y,hy,by omega,by omega⟩ h3
  ·rintro ⟨h1,h2,h3⟩;exact ⟨h1,by omega,h3⟩
end Go.Proofs.YtphpppjfogpohaaGreat
namespace Go.Proofs.YtphpppjfogpohaaGreat
open Go.RowKit
section
variable {α : Type} {e : TypeId} {n : Nat} {f : α → List Value} {B : Nat} {v : Value} {xs ys : List α} {w : World} {P : Program} {bytes : Nat}
theorem Own.lit (hf:Cells n f) (ys:List α) (cs:Array Value) (hcs:cs=(ys.flatMap f).toArray) (m:Nat) (hm:ys.length=m) (hB:B≤w.heap.size) (h63:m≤maxLen) (H:Nat) (hH:w.heap.size=H):
  Own e n f (w.alloc (.cells cs e)) B (.slice (some ⟨H,0,none⟩) m m) ys:=by
 subst hcs hm hH
 refine ⟨flat_len hf ys,.inr ⟨w.heap.size,ys.length,_,rfl,hB,heap_alloc_new w _,Nat.le_refl _,h63,by simp [flat_len hf],?_⟩⟩
 rw [List.take_of_length_le (by simp [flat_len hf])]
end
end Go.Proofs.YtphpppjfogpohaaGreat
namespace Go.Proofs.YtphpppjfogpohaaGreat
open Go.RowKit Go.Shelf
theorem nodeCells:Cells 3 nodeC:=⟨fun _=>rfl,fun x u h=>by simp [nodeC]at h;rcases h with rfl | rfl | rfl <;>rfl⟩
theorem valInfo0:(Tryz.prog.info? 71).map (fun i=>(i.zero,i.size,i.bytes))=some (some (.agg #[.int .i64 0,.int .i64 0]),2,16):=by kernel_rfl
theorem valInfo:Info Tryz.prog 25 71 2 16:=
 ⟨Tryz.underlying25,by obtain ⟨i0,hi,hz0,hz1,hz2⟩:=info_parts valInfo0;exact ⟨i0,_,hi,hz0,hz1,hz2,rfl⟩,by decide⟩
theorem nodeInfo0:(Tryz.prog.info? 66).map (fun i=>(i.zero,i.size,i.bytes))=some (some (.agg #[.int .i64 0,.slice none 0 0,.slice none 0 0]),3,56):=by kernel_rfl
theorem nodeInfo:Info Tryz.prog 24 66 3 56:=
 ⟨Tryz.underlying24,by obtain ⟨i0,hi,hz0,hz1,hz2⟩:=info_parts nodeInfo0;exact ⟨i0,_,hi,hz0,hz1,hz2,rfl⟩,by decide⟩
theorem equalV_any (A A2:Option Addr) (cap cap2:Nat) (xs ys:List (Int×Int)) (W:World) (hlen:xs.length≤9223372036854775807) (hlen2:ys.length≤9223372036854775807) (hl:SpansAt W A xs) (hl2:SpansAt W A2 ys):
  Calls Tryz.prog 107 #[.slice A xs.length cap,.slice A2 ys.length cap2] W fun e w'=>e= .returned (.bool (decide (xs=ys)))∧Ext W w':=by
 have HL:=zH hl
 have HL2:=zH hl2
 clear hl hl2
 by_cases hne:xs.length=ys.length
 rotate_left
 ·have h1:((xs.length:Int) !=(ys.length:Int))=true:=by rw [bne_iff_ne];omega
  have h2:decide (xs=ys)=false:=by simp;intro e;subst e;exact hne rfl
  have HR:=zH h2
  clear h2 hne
  go_enter Tryz.func107,Tryz.ntmps107
  go_wp2_with fail
  go_ret
  exact ⟨ret_bool (by rw [HR.out]),Ext.refl _⟩
 have HN:=zH hne
 have h1:((xs.length:Int) !=(ys.length:Int))=false:=by rw [←HN.out];simp
 clear hne
 go_enter Tryz.func107,Tryz.ntmps107
 go_wp2_with fail
 go_loopw [5,13] (fun _ i wr=>∃k:Nat,k≤xs.length∧i= .int .i64 k∧Ext W wr∧Hid (∀i,i < k→xs.getD i (0,0)=ys.getD i (0,0))) (fun _ i _=>xs.length - (intOf i).toNat)
 case atStart=>exact ⟨0,by omega,rfl,Ext.refl _,zH (by omega)⟩
 case round=>
  obtain ⟨k,hk,rfl,hxr,hq⟩:=hrel
  by_cases hlt:k < xs.length
  rotate_left
  ·have HR:=zH (same_ofD HN.out (fun i hi=>hq.out i (by omega)))
   clear hq
   go_wp2_with fail
   go_ret
   exact ⟨ret_bool (by simp [HR.out]),hxr⟩
  have hlt2:k < ys.length:=by have:=HN.out;omega
  obtain ⟨lb,off,rfl,hc⟩:=HL.out.get (by omega)
  obtain ⟨lb2,off2,rfl,hc2⟩:=HL2.out.get (by omega)
  obtain ⟨e1,e2⟩:=spans_cell hc hlt
  obtain ⟨e3,e4⟩:=spans_cell hc2 hlt2
  have c1:=hxr.cell e1
  have c2:=hxr.cell e2
  have c3:=hxr.cell e3
  have c4:=hxr.cell e4
  have HS:=zH (fun (h:xs.getD k (0,0)=ys.getD k (0,0))=>(fun i (hi:i < k+1)=>by
   rcases Nat.lt_or_ge i k with h' | h'
   ·exact hq.out i h'
   ·obtain rfl:i=k:=by omega
    exact h:∀i,i < k+1→xs.getD i (0,0)=ys.getD i (0,0)))
  have HD:=zH (fun (h:xs.getD k (0,0)≠ys.getD k (0,0))=>(fun e:xs=ys=>h (by rw [e]):xs≠ys))
  clear e1 e2 e3 e4 hc hc2 HL HL2 hq HN
  generalize xs.getD k (0,0)=x at*
  generalize ys.getD k (0,0)=y at*
  obtain ⟨a,s⟩:=x
  obtain ⟨c,d⟩:=y
  simp only at c1 c2 c3 c4
  have ib1:(k:Int) < (xs.length:Int):=by omega
  have ib2:(k:Int) < (ys.length:Int):=by omega
  have ib3:(0:Int)≤(k:Int):=by omega
  by_cases he:a=c∧s=d
  ·obtain ⟨rfl,rfl⟩:=he
   go_wp2_with fail
   go_quiet (fail)
   go_wp2_with fail
   go_roundw
   case rel=>exact ⟨k+1,by omega,by go_num,hxr.drewN _,zH (HS.out (by first | rfl | trivial))⟩
   case measure=>simp [intOf];omega
  ·have HE:=zH (HD.out (by intro e;injection e with e1 e2;exact he ⟨e1,e2⟩))
   have hb:(a==c)=false∨(a=c∧(s==d)=false):=by
    by_cases h1:a=c
    ·exact .inr ⟨h1,by rw [beq_eq_false_iff_ne];exact fun h=>he ⟨h1,h⟩⟩
    ·exact .inl (by rw [beq_eq_false_iff_ne];exact h1)
   clear he HD HS
   rcases hb with hb | ⟨rfl,hb⟩
   all_goals
    go_wp2_with fail
    go_quiet (fail)
    go_wp2_with fail
    go_ret
    exact ⟨ret_bool (decide_eq_false HE.out).symm,hxr.drewN _⟩
theorem equalU_any (A A2:Option Addr) (cap cap2:Nat) (xs ys:List Int) (W:World) (hlen:xs.length≤9223372036854775807) (hlen2:ys.length≤9223372036854775807) (hl:WordsAt W A xs) (hl2:WordsAt W A2 ys):
  Calls Tryz.prog 110 #[.slice A xs.length cap,.slice A2 ys.length cap2] W fun e w'=>e= .returned (.bool (decide (xs=ys)))∧Ext W w':=by
 have HL:=zH hl
 have HL2:=zH hl2
 clear hl hl2
 by_cases hne:xs.length=ys.length
 rotate_left
 ·have h1:((xs.length:Int) !=(ys.length:Int))=true:=by rw [bne_iff_ne];omega
  have h2:decide (xs=ys)=false:=by simp;intro e;subst e;exact hne rfl
  have HR:=zH h2
  clear h2 hne
  go_enter Tryz.func110,Tryz.ntmps110
  go_wp2_with fail
  go_ret
  exact ⟨ret_bool (by rw [HR.out]),Ext.refl _⟩
 have HN:=zH hne
 have h1:((xs.length:Int) !=(ys.length:Int))=false:=by rw [←HN.out];simp
 clear hne
 go_enter Tryz.func110,Tryz.ntmps110
 go_wp2_with fail
 go_loopw [5,13] (fun _ i wr=>∃k:Nat,k≤xs.length∧i= .int .i64 k∧Ext W wr∧Hid (∀i,i < k→xs.getD i 0=ys.getD i 0)) (fun _ i _=>xs.length - (intOf i).toNat)
 case atStart=>exact ⟨0,by omega,rfl,Ext.refl _,zH (by omega)⟩
 case round=>
  obtain ⟨k,hk,rfl,hxr,hq⟩:=hrel
  by_cases hlt:k < xs.length
  rotate_left
  ·have HR:=zH (same_ofD HN.out (fun i hi=>hq.out i (by omega)))
   clear hq
   go_wp2_with fail
   go_ret
   exact ⟨ret_bool (by simp [HR.out]),hxr⟩
  have hlt2:k < ys.length:=by have:=HN.out;omega
  obtain ⟨lb,off,rfl,hc⟩:=HL.out.get (by omega)
  obtain ⟨lb2,off2,rfl,hc2⟩:=HL2.out.get (by omega)
  have e1:=words_cell hc hlt
  have e3:=words_cell hc2 hlt2
  have c1:=hxr.cell e1
  have c3:=hxr.cell e3
  have HS:=zH (fun (h:xs.getD k 0=ys.getD k 0)=>(fun i (hi:i < k+1)=>by
   rcases Nat.lt_or_ge i k with h' | h'
   ·exact hq.out i h'
   ·obtain rfl:i=k:=by omega
    exact h:∀i,i < k+1→xs.getD i 0=ys.getD i 0))
  have HD:=zH (fun (h:xs.getD k 0≠ys.getD k 0)=>(fun e:xs=ys=>h (by rw [e]):xs≠ys))
  clear e1 e3 hc hc2 HL HL2 hq HN
  generalize xs.getD k 0=x at*
  generalize ys.getD k 0=y at*
  have ib1:(k:Int) < (xs.length:Int):=by omega
  have ib2:(k:Int) < (ys.length:Int):=by omega
  have ib3:(0:Int)≤(k:Int):=by omega
  by_cases he:x=y
  ·obtain rfl:=he
   go_wp2_with fail
   go_quiet (fail)
   go_wp2_with fail
   go_roundw
   case rel=>exact ⟨k+1,by omega,by go_num,hxr.drewN _,zH (HS.out (by first | rfl | trivial))⟩
   case measure=>simp [intOf];omega
  ·have HE:=zH (HD.out he)
   have hb:(x !=y)=true:=by rw [bne_iff_ne];exact he
   clear he HD HS
   go_wp2_with fail
   go_quiet (fail)
   go_wp2_with fail
   go_ret
   exact ⟨ret_bool (decide_eq_false HE.out).symm,hxr.drewN _⟩
theorem cloneV_any (A:Option Addr) (cap:Nat) (xs:List (Int×Int)) (W:World) (hlen:xs.length≤8796093022208) (hl:RowAt 2 spanC W A xs):
  Calls Tryz.prog 149 #[.slice A xs.length cap] W fun e w'=>∃A1 cap1,e= .returned (.slice A1 xs.length cap1)∧Own 71 2 spanC w' W.heap.size (.slice A1 xs.length cap1) xs∧Ext W w':=by
 have HL:=zH hl
 clear hl
 cases A with
 | none=>
  obtain rfl:=row_none HL.out
  have he:=fun w=>Lib.run_eql_slice_nil (P:=Tryz.prog) w 25 71 none 0 cap 0 0 Tryz.underlying25
  simp only [Option.isNone_none]at he
  simp only [List.length_nil]
  clear HL
  go_enter Tryz.func149,Tryz.ntmps149
  go_wp2_with fail
  go_ret
  exact ⟨none,0,rfl,Own.nil _ _ _ _ _,Ext.refl _⟩
 | some ad=>
  have he:=fun w=>Lib.run_eql_slice_nil (P:=Tryz.prog) w 25 71 (some ad) xs.length cap 0 0 Tryz.underlying25
  simp only [Option.isNone_some]at he
  go_enter Tryz.func149,Tryz.ntmps149
  go_wp2_with (at_builtin;refine wpList_app rfl (.tmp 5) (.tmp 6) 25 rfl valInfo spanCells rfl (by exact Own.empty 71 2 spanC W W.heap.size (Nat.le_refl _)) xs ad cap xs.length xs.length (by simp) rfl rfl (by exact RowAt.ext HL.out ((Ext.refl _).alloc _)) (by omega) (by simp [maxLen];try omega) (by simp) ?_;intro A3 cap3 w3 hown3 hgr3 hat3;have HO3:=zH hown3;have hX3:Ext W w3:=Own.below (Own.empty 71 2 spanC W W.heap.size (Nat.le_refl _)) ((Below.refl _ _).alloc (Nat.le_refl _) _) hgr3 (by simp);clear hown3 hgr3 hat3)
  go_ret
  exact ⟨A3,cap3,rfl,by simpa using HO3.out,hX3⟩
def placeZ (l:List Int) (x:Int):Int:=match l.findIdx? (fun y=>decide (y=x))with
 | some i=>i
 | none=> -1
theorem place_hit {l:List Int} {x:Int} {k:Nat} (hk:k < l.length) (h:l.getD k 0=x) (hq:∀i,i < k→l.getD i 0≠x):placeZ l x=k:=by
 have:l.findIdx? (fun y=>decide (y=x))=some k:=by
  rw [List.findIdx?_eq_some_iff_getElem]
  refine ⟨hk,by simpa [List.getElem?_eq_getElem hk]using h,fun j hj=> ?_⟩
  have:=hq j hj
  simpa [List.getElem?_eq_getElem (show j < l.length by omega)]using this
 simp [placeZ,this]
theorem place_miss {l:List Int} {x:Int} (hq:∀i,i < l.length→l.getD i 0≠x):placeZ l x= -1:=by
 have:l.findIdx? (fun y=>decide (y=x))=none:=by
  rw [List.findIdx?_eq_none_iff]
  intro y hy
  obtain ⟨i,hi,rfl⟩:=List.getElem_of_mem hy
  simpa [List.getElem?_eq_getElem hi]using hq i hi
 simp [placeZ,this]
theorem place_cases (l:List Int) (x:Int):(placeZ l x= -1∧∀y∈l,y≠x)∨∃k:Nat,k < l.length∧placeZ l x=k∧l.getD k 0=x∧∀i,i < k→l.getD i 0≠x:=by
 cases h:l.findIdx? (fun y=>decide (y=x))with
 | none=>
  refine .inl ⟨by simp [placeZ,h],fun y hy=> ?_⟩
  have:=List.findIdx?_eq_none_iff.1 h y hy
  simpa using this
 | some k=>
  obtain ⟨hk,h1,h2⟩:=List.findIdx?_eq_some_iff_getElem.1 h
  refine .inr ⟨k,hk,by simp [placeZ,h],by simpa [List.getElem?_eq_getElem hk]using h1,fun i hi=> ?_⟩
  have:=h2 i hi
  simpa [List.getElem?_eq_getElem (show i < l.length by omega)]using this
def turned (o:List Int) (v:Int×Int):Int×Int:=if v.1=2 then (2,placeZ o v.2)else v
def lostV (o:List Int) (v:Int×Int):Bool:=decide (v.1=2∧placeZ o v.2 < 0)
theorem place_ge (l:List Int) (x:Int): -1≤placeZ l x∧placeZ l x < l.length:=by
 rcases place_cases l x with ⟨h,_⟩ | ⟨k,hk,h,_⟩ <;>omega
end Go.Proofs.YtphpppjfogpohaaGreat
