/- Merged by program (merge.py) out of: SortH, SortI, SpanC, SpanD, SpanE, GapSpec, RefGap, GraD, GraE, GraF, GraG. -/
import Derived.Test.YtphpppjfogpohaaGreatMy0
import Derived.WalkSpells
import Derived.Lib.SliceRun
import Derived.Test.YtphpppjfogpohaaGreatMy10
import Derived.Test.YtphpppjfogpohaaGreatMy7
import Derived.Test.YtphpppjfogpohaaGreatMy1
import Derived.Test.YtphpppjfogpohaaGreatMy9
import Derived.Test.YtphpppjfogpohaaGreatMy6
set_option linter.unusedSimpArgs false
set_option linter.unusedVariables false
set_option maxRecDepth 100000
set_option maxHeartbeats 16000000
namespace Go.Proofs.YtphpppjfogpohaaGreat
open Go.RowKit
theorem ml (B g N cap a b:Nat) (xs:List (Int×Int)) (w:World) (x y:Int) (hx:x=a) (hy:y=b) (hB:B≤w.heap.size) (hBg:B≤g) (hN:xs.length=N) (hN2:N≤4000000000000) (hab:a≤b) (hb:b≤N)
  (ho:OwnS w B (.slice (some ⟨g,0,none⟩) N cap) xs):
  Calls Tryz.prog 241 #[.slice (some ⟨g,0,none⟩) N cap,.int .i64 x,.int .i64 y,.func (.func 237) #[] #[]] w
   (cw w B g N cap (fun ys=>Seg a b xs ys∧Ordered a b ys)):=by
 subst hx hy
 exact pd B g N cap a b xs w hB hBg hN hN2 hab hb ho
theorem yb (B g N cap a m b:Nat) (xs:List (Int×Int)) (w:World) (x y z:Int) (hx:x=a) (hy:y=m) (hz:z=b) (hB:B≤w.heap.size) (hBg:B≤g) (hN:xs.length=N) (hN2:N≤4000000000000) (ham:a < m) (hmb:m < b) (hb:b≤N)
  (hoA:Ordered a m xs) (hoB:Ordered m b xs) (ho:OwnS w B (.slice (some ⟨g,0,none⟩) N cap) xs):
  Calls Tryz.prog 242 #[.slice (some ⟨g,0,none⟩) N cap,.int .i64 x,.int .i64 y,.int .i64 z,.func (.func 237) #[] #[]] w
   (cw w B g N cap (fun ys=>Seg a b xs ys∧Ordered a b ys)):=by
 subst hx hy hz
 exact xj B g N cap a m b xs w hB hBg hN hN2 ham hmb hb hoA hoB ho
def z7 (w:World) (B g N cap:Nat) (xs:List (Int×Int)) (va vb:Value) (wr:World):Prop:=
 ∃(a:Nat) (zs:List (Int×Int)),va= .int .i64 a∧vb= .int .i64 ((a:Int)+20)∧a≤N∧Below B w wr∧zs.length=N∧Seg 0 N xs zs∧DBlk 20 zs a∧OwnS wr B (.slice (some ⟨g,0,none⟩) N cap) zs
def z8 (w:World) (B g N cap:Nat) (xs:List (Int×Int)) (vs:Value) (wr:World):Prop:=
 ∃(s:Nat) (zs:List (Int×Int)),vs= .int .i64 s∧0 < s∧s≤8000000000000∧Below B w wr∧zs.length=N∧Seg 0 N xs zs∧Blk s N zs 0∧OwnS wr B (.slice (some ⟨g,0,none⟩) N cap) zs
def za (w:World) (B g N cap s:Nat) (xs:List (Int×Int)) (va vb:Value) (wr:World):Prop:=
 ∃(a:Nat) (zs:List (Int×Int)),va= .int .i64 a∧vb= .int .i64 ((a:Int)+2*(s:Int))∧a≤N∧Below B w wr∧zs.length=N∧Seg 0 N xs zs∧DBlk (2*s) zs a∧Blk s N zs a∧OwnS wr B (.slice (some ⟨g,0,none⟩) N cap) zs
theorem rV (B g N cap:Nat) (xs:List (Int×Int)) (w:World) (hB:B≤w.heap.size) (hBg:B≤g) (hN:xs.length=N) (hN2:N≤4000000000000)
  (ho:OwnS w B (.slice (some ⟨g,0,none⟩) N cap) xs):
  Calls Tryz.prog 238 #[.slice (some ⟨g,0,none⟩) N cap,.int .i64 N,.func (.func 237) #[] #[]] w
   (cw w B g N cap (fun ys=>Seg 0 N xs ys∧Ordered 0 N ys)):=by
 have HO:=zH ho
 have HN:=zH hN
 clear ho hN
 have i0:(N:Int)≤4000000000000:=by omega
 go_enter Tryz.func238,Tryz.ntmps238
 go_wp2_with fail
 go_loopw [7,8] (fun a b wr=>z7 w B g N cap xs a b wr) (fun a _ _=>N - (intOf a).toNat)
 case atStart=>exact ⟨0,xs,rfl,rfl,by omega,Below.refl _ _,HN.out,AF _ _ _,DBlk.zero,HO.out⟩
 case round=>
  obtain ⟨a,zs,rfl,rfl,haN,hbel,hzl,hseg,hdb,hown⟩:=hrel
  have HW:=zH hown
  have HBL:=zH hbel
  have HY:=zH hzl
  have HSG:=zH hseg
  have HD:=zH hdb
  clear hown hbel hzl hseg hdb HO HN
  have hsz:B≤wr.heap.size:=by have:=HBL.out.size;omega
  by_cases hlt:a+20≤N
  ·have k1:(a:Int)+20≤(N:Int):=by omega
   go_wp2_with fail
   refine (ml B g N cap a (a+20) zs _ _ _ oM oM hsz hBg HY.out hN2 oM oM HW.out).mono ?_
   rintro e w1 ⟨rfl,hb1,ys,hyl,⟨hs1,ho1⟩,hw1⟩
   have H1:=zH hw1
   have H2:=zH hyl
   have H3:=zH (HBL.out.trans hb1)
   have H4:=zH (HSG.out.trans (hs1.mono (by omega:0≤a) (by omega:a+20≤N)))
   have H5:=zH (DBlk.snoc a (HD.out.congr fun i hi=>hs1.out i oM) ho1)
   clear hw1 hyl hb1 hs1 ho1
   go_wp2_with fail
   go_roundw
   case rel=>exact ⟨a+20,ys,by go_num,by congr 1,by omega,H3.out,H2.out,H4.out,H5.out,H1.out⟩
   case measure=>simp [intOf];omega
  ·have k1:(N:Int) < (a:Int)+20:=by omega
   go_wp2_with fail
   refine (ml B g N cap a N zs _ _ _ rfl rfl hsz hBg HY.out hN2 oM oM HW.out).mono ?_
   rintro e w1 ⟨rfl,hb1,ys,hyl,⟨hs1,ho1⟩,hw1⟩
   have H1:=zH hw1
   have H2:=zH hyl
   have H3:=zH (HBL.out.trans hb1)
   have H4:=zH (HSG.out.trans (hs1.mono (by omega:0≤a) (by omega:N≤N)))
   have H5:=zH (DBlk.all (N:=N) (HD.out.congr fun i hi=>hs1.out i oM) (Blk.last a haN oM ho1) haN)
   clear hw1 hyl hb1 hs1 ho1 HW HBL HY HSG HD hsz
   go_wp2_with fail
   go_loopw [6,7,8,9] (fun s _ _ _ wr=>z8 w B g N cap xs s wr) (fun s _ _ _ _=>N - (intOf s).toNat)
   case atStart=>exact ⟨20,ys,rfl,by omega,by omega,H3.out,H2.out,H4.out,H5.out,H1.out⟩
   case round=>
    clear H1 H2 H3 H4 H5
    obtain ⟨s,zs,rfl,hs0,hs8,hbel,hzl,hseg,hbk,hown⟩:=hrel
    have HW:=zH hown
    have HBL:=zH hbel
    have HY:=zH hzl
    have HSG:=zH hseg
    have HK:=zH hbk
    clear hown hbel hzl hseg hbk
    by_cases hlt:s < N
    rotate_left
    ·have k2:(N:Int)≤(s:Int):=by omega
     have k3:decide (s < N)=false:=by simp;omega
     go_wp2_with fail
     go_end0
     exact ⟨rfl,HBL.out,zs,HY.out,⟨HSG.out,HK.out.one oM⟩,HW.out⟩
    have k2:(s:Int) < (N:Int):=by omega
    have k3:(0:Int) < (s:Int):=by omega
    go_wp2_with fail
    go_loopw [7,8] (fun a b wr=>za w B g N cap s xs a b wr) (fun a _ _=>N - (intOf a).toNat)
    case atStart=>exact ⟨0,zs,rfl,by congr 1;omega,by omega,HBL.out,HY.out,HSG.out,DBlk.zero,HK.out,HW.out⟩
    case round=>
     clear HW HBL HY HSG HK
     obtain ⟨c,ys,rfl,rfl,hcN,hbel,hzl,hseg,hdb,hbk,hown⟩:=hrel
     have HW:=zH hown
     have HBL:=zH hbel
     have HY:=zH hzl
     have HSG:=zH hseg
     have HD:=zH hdb
     have HK:=zH hbk
     clear hown hbel hzl hseg hdb hbk
     have hsz:B≤wr.heap.size:=by have:=HBL.out.size;omega
     by_cases hlt2:c+2*s≤N
     ·have k4:(c:Int)+2*(s:Int)≤(N:Int):=by omega
      obtain ⟨o1,o2,hrest⟩:=HK.out.two hs0 hlt2
      have HR:=zH hrest
      clear hrest
      go_wp2_with fail
      refine (yb B g N cap c (c+s) (c+2*s) ys _ _ _ _ oM oM oM hsz hBg HY.out hN2 oM oM hlt2 o1 o2 HW.out).mono ?_
      rintro e w2 ⟨rfl,hb1,ts,hyl,⟨hs1,ho1⟩,hw1⟩
      have H1:=zH hw1
      have H2:=zH hyl
      have H3:=zH (HBL.out.trans hb1)
      have H4:=zH (HSG.out.trans (hs1.mono (by omega:0≤c) hlt2))
      have H5:=zH (DBlk.snoc c (HD.out.congr fun i hi=>hs1.out i oM) ho1)
      have H6:=zH (HR.out.congr fun i hi=>hs1.out i oM)
      clear hw1 hyl hb1 hs1 ho1 o1 o2
      go_wp2_with fail
      go_roundw
      case rel=>exact ⟨c+2*s,ts,by go_num,by congr 1,by omega,H3.out,H2.out,H4.out,H5.out,H6.out,H1.out⟩
      case measure=>simp [intOf];omega
     ·have k4:(N:Int) < (c:Int)+2*(s:Int):=by omega
      by_cases hms:c+s < N
      ·have k5:(c:Int)+(s:Int) < (N:Int):=by omega
       obtain ⟨o1,o2⟩:=HK.out.lastTwo hms oM
       go_wp2_with fail
       refine (yb B g N cap c (c+s) N ys _ _ _ _ oM oM oM hsz hBg HY.out hN2 oM oM oM o1 o2 HW.out).mono ?_
       rintro e w2 ⟨rfl,hb1,ts,hyl,⟨hs1,ho1⟩,hw1⟩
       have H1:=zH hw1
       have H2:=zH hyl
       have H3:=zH (HBL.out.trans hb1)
       have H4:=zH (HSG.out.trans (hs1.mono (by omega:0≤c) (by omega:N≤N)))
       have H5:=zH (DBlk.all (N:=N) (HD.out.congr fun i hi=>hs1.out i oM) (Blk.last c hcN oM ho1) hcN)
       clear hw1 hyl hb1 hs1 ho1 o1 o2
       go_wp2_with fail
       go_roundw
       case rel=>exact ⟨2*s,ts,by congr 1;omega,by omega,by omega,H3.out,H2.out,H4.out,H5.out,H1.out⟩
       case measure=>simp [intOf];omega
      ·have k5:(N:Int)≤(c:Int)+(s:Int):=by omega
       have H5:=zH (DBlk.all (N:=N) HD.out (Blk.last c hcN oM (HK.out.one oM)) hcN)
       go_wp2_with fail
       go_roundw
       case rel=>exact ⟨2*s,ys,by congr 1;omega,by omega,by omega,HBL.out,HY.out,HSG.out,H5.out,HW.out⟩
       case measure=>simp [intOf];omega
theorem km (B g N cap:Nat) (xs:List (Int×Int)) (w:World) (hB:B≤w.heap.size) (hBg:B≤g) (hN:xs.length=N) (hN2:N≤4000000000000)
  (ho:OwnS w B (.slice (some ⟨g,0,none⟩) N cap) xs):
  Calls Tryz.prog 236 #[.slice (some ⟨g,0,none⟩) N cap,.func (.func 237) #[] #[]] w
   (cw w B g N cap (fun ys=>Seg 0 N xs ys∧Ordered 0 N ys)):=by
 have HO:=zH ho
 have HN:=zH hN
 clear ho hN
 go_enter Tryz.func236,Tryz.ntmps236
 go_wp2_with fail
 refine (rV B g N cap xs _ hB hBg HN.out hN2 HO.out).mono ?_
 rintro e w1 ⟨rfl,hb1,ys,hyl,hs1,hw1⟩
 have H1:=zH hw1
 have H2:=zH hyl
 have H3:=zH hb1
 have H4:=zH hs1
 clear hw1 hyl hb1 hs1
 go_wp2_with fail
 go_end0
 exact ⟨rfl,H3.out,ys,H2.out,H4.out,H1.out⟩
theorem Ordered.all {N:Nat} {ys:List (Int×Int)} (h:Ordered 0 N ys) (hl:ys.length=N):ys.Pairwise (fun x y=>leS x y=true):=by
 rw [List.pairwise_iff_getElem]
 intro i j hi hj hij
 have:=h i j oM hij oM
 simpa [gt,List.getElem?_eq_getElem hi,List.getElem?_eq_getElem hj]using this
theorem ph (w:World):
  Calls Tryz.prog 241 #[.slice none 0 0,.int .i64 0,.int .i64 0,.func (.func 237) #[] #[]] w fun e w'=>e= .returned (.tuple #[])∧Ext w w':=by
 go_enter Tryz.func241,Tryz.ntmps241
 go_wp2_with fail
 go_loopw [8] (fun i wr=>i= .int .i64 1∧Ext w wr) (fun _ _=>0)
 case atStart=>exact ⟨rfl,zo _⟩
 case round=>
  obtain ⟨rfl,hx⟩:=hrel
  go_wp2_with fail
  go_end0
  exact ⟨rfl,hx⟩
theorem rW (w:World):
  Calls Tryz.prog 238 #[.slice none 0 0,.int .i64 0,.func (.func 237) #[] #[]] w fun e w'=>e= .returned (.tuple #[])∧Ext w w':=by
 go_enter Tryz.func238,Tryz.ntmps238
 go_wp2_with fail
 go_loopw [7,8] (fun a b wr=>a= .int .i64 0∧b= .int .i64 20∧Ext w wr) (fun _ _ _=>0)
 case atStart=>exact ⟨rfl,rfl,zo _⟩
 case round=>
  obtain ⟨rfl,rfl,hx⟩:=hrel
  go_wp2_with fail
  refine (ph _).mono ?_
  rintro e w1 ⟨rfl,hx1⟩
  replace hx:=hx.trans hx1
  clear hx1
  go_wp2_with fail
  go_loopw [6] (fun s wr=>s= .int .i64 20∧Ext w wr) (fun _ _=>0)
  case atStart=>exact ⟨rfl,hx⟩
  case round=>
   obtain ⟨rfl,hx⟩:=hrel
   go_wp2_with fail
   go_end0
   exact ⟨rfl,hx⟩
theorem kn (w:World):
  Calls Tryz.prog 236 #[.slice none 0 0,.func (.func 237) #[] #[]] w fun e w'=>e= .returned (.tuple #[])∧Ext w w':=by
 go_enter Tryz.func236,Tryz.ntmps236
 go_wp2_with fail
 refine (rW _).mono ?_
 rintro e w1 ⟨rfl,hx⟩
 go_wp2_with fail
 go_end0
 exact ⟨rfl,hx⟩
theorem rX (cap:Nat) (W:World):
  Calls Tryz.prog 83 #[.slice none 0 cap] W fun e w'=>e= .returned (.slice none 0 0)∧Ext W w':=by
 have he:=fun w=>Lib.run_eql_slice_nil (P:=Tryz.prog) w 31 63 none 0 cap 0 0 Tryz.underlying31
 simp only [Option.isNone_none]at he
 go_enter Tryz.func83,Tryz.ntmps83
 go_wp2_with fail
 go_ret
 exact ⟨rfl,zo _⟩
theorem rY (ad:Addr) (cap:Nat) (xs:List (Int×Int)) (W:World) (hlen:xs.length≤4000000000000) (hl:SpansAt W (some ad) xs):
  Calls Tryz.prog 83 #[.slice (some ad) xs.length cap] W fun e w'=>∃g cap,e= .returned (.slice (some ⟨g,0,none⟩) xs.length cap)∧OwnS w' W.heap.size (.slice (some ⟨g,0,none⟩) xs.length cap) xs∧Below W.heap.size W w':=by
 have he:=fun w=>Lib.run_eql_slice_nil (P:=Tryz.prog) w 31 63 (some ad) xs.length cap 0 0 Tryz.underlying31
 simp only [Option.isNone_some]at he
 have HL:=zH hl
 clear hl
 go_enter Tryz.func83,Tryz.ntmps83
 go_wp2_with (at_builtin;refine ai rfl (.tmp 5) (.tmp 6) 31 rfl aZ aE rfl (by exact AC 63 2 aa W W.heap.size (Nat.le_refl _)) xs ad cap xs.length xs.length sM rfl rfl (by exact AE HL.out ((zo _).alloc _)) oM (by simp [maxLen];try omega) sM ?_;intro A3 cap3 w3 hown3 hgr3 hat3;have HO3:=zH hown3;have hX3:Ext W w3:=zw (AC 63 2 aa W W.heap.size (Nat.le_refl _)) ((Below.refl _ _).alloc (Nat.le_refl _) _) hgr3 sM;have HT:=zH hat3;clear hown3 hgr3 hat3)
 have hA:∃g,A3=some ⟨g,0,none⟩:=by
  rcases HO3.out.2 with ⟨h,_⟩ | ⟨g,_,_,h,_⟩
  ·exfalso
   have:=HT.out
   injection h with h1 h2 h3
   subst h1
   simp [Value.ownBlock,Act.eval]at this
  ·injection h with h1 h2 h3
   exact ⟨g,h1⟩
 obtain ⟨g,rfl⟩:=hA
 go_ret
 exact ⟨g,cap3,rfl,by simpa using HO3.out,hX3⟩
theorem vh (A:Option Addr) (cap:Nat) (xs:List (Int×Int)) (W:World) (hlen:xs.length≤1000000) (hl:SpansAt W A xs):
  Calls Tryz.prog 235 #[.slice A xs.length cap] W (RetS W W.heap.size (sortS xs)):=by
 have HL:=zH hl
 clear hl
 cases A with
 | none=>
  obtain rfl:=ff HL.out
  simp only [List.length_nil]
  go_enter Tryz.func235,Tryz.ntmps235
  go_wp2_with fail
  refine (rX _ _).mono ?_
  rintro e w1 ⟨rfl,hx⟩
  go_wp2_with fail
  refine (kn _).mono ?_
  rintro e w2 ⟨rfl,hx2⟩
  have hx':=hx.trans hx2
  clear hx hx2
  go_wp2_with fail
  go_ret
  exact ⟨_,rfl,by rw [show sortS []= []from by simp [sortS]];exact AA _ _ _ _ _,hx'⟩
 | some ad=>
  go_enter Tryz.func235,Tryz.ntmps235
  go_wp2_with fail
  refine (rY ad cap xs _ oM HL.out).mono ?_
  rintro e w1 ⟨g,cap1,rfl,ho,hb⟩
  have HO:=zH ho
  have HB:=zH hb
  clear ho hb
  have hg:W.heap.size≤g:=by
   rcases HO.out.2 with ⟨h,_⟩ | ⟨g',_,_,h,hb,_⟩
   ·simp at h
   ·simp at h;omega
  go_wp2_with fail
  refine (km W.heap.size g xs.length cap1 xs _ (zv HB.out) hg rfl oM HO.out).mono ?_
  rintro e w2 ⟨rfl,hb2,ys,hyl,⟨hs,hord⟩,ho2⟩
  have HO2:=zH ho2
  have HB2:=zH (HB.out.trans hb2)
  have HS:=zH hs
  have HD:=zH hord
  have HY:=zH hyl
  clear ho2 hb2 hs hord hyl
  go_wp2_with fail
  go_ret
  have he:sortS xs=ys:=(gN (Seg.perm HS.out) (Ordered.all HD.out HY.out)).symm
  exact ⟨_,rfl,by rw [he];exact HO2.out,HB2.out⟩
theorem sh {xs ys:List (Int×Int)} (hl:xs.length=ys.length) (h:∀i,i < xs.length→xs.getD i (0,0)=ys.getD i (0,0)):xs=ys:=by
 refine List.ext_getElem hl fun i h1 h2=> ?_
 have:=h i h1
 simpa [List.getElem?_eq_getElem h1,List.getElem?_eq_getElem h2]using this
theorem pi (A A2:Option Addr) (cap cap2:Nat) (xs ys:List (Int×Int)) (W:World) (hlen:xs.length≤9223372036854775807) (hlen2:ys.length≤9223372036854775807) (hl:SpansAt W A xs) (hl2:SpansAt W A2 ys):
  Calls Tryz.prog 55 #[.slice A xs.length cap,.slice A2 ys.length cap2] W fun e w'=>e= .returned (.bool (decide (xs=ys)))∧Ext W w':=by
 have HL:=zH hl
 have HL2:=zH hl2
 clear hl hl2
 by_cases hne:xs.length=ys.length
 rotate_left
 ·have h1:((xs.length:Int) !=(ys.length:Int))=true:=by rw [bne_iff_ne];omega
  have h2:decide (xs=ys)=false:=by simp;intro e;subst e;exact hne rfl
  have HR:=zH h2
  clear h2 hne
  go_enter Tryz.func55,Tryz.ntmps55
  go_wp2_with fail
  go_ret
  exact ⟨aD (by rw [HR.out]),zo _⟩
 have HN:=zH hne
 have h1:((xs.length:Int) !=(ys.length:Int))=false:=by rw [←HN.out];simp
 clear hne
 go_enter Tryz.func55,Tryz.ntmps55
 go_wp2_with fail
 go_loopw [5] (fun i wr=>∃k:Nat,k≤xs.length∧i= .int .i64 k∧Ext W wr∧Hid (∀i,i < k→xs.getD i (0,0)=ys.getD i (0,0))) (fun i _=>xs.length - (intOf i).toNat)
 case atStart=>exact ⟨0,by omega,rfl,zo _,zH oM⟩
 case round=>
  obtain ⟨k,hk,rfl,hxr,hq⟩:=hrel
  by_cases hlt:k < xs.length
  rotate_left
  ·have HR:=zH (sh HN.out (fun i hi=>hq.out i oM))
   clear hq
   go_wp2_with fail
   go_ret
   exact ⟨aD (by simp [HR.out]),hxr⟩
  have hlt2:k < ys.length:=by have:=HN.out;omega
  obtain ⟨lb,off,rfl,hc⟩:=HL.out.get oM
  obtain ⟨lb2,off2,rfl,hc2⟩:=HL2.out.get oM
  obtain ⟨e1,e2⟩:=aQ hc hlt
  obtain ⟨e3,e4⟩:=aQ hc2 hlt2
  have c1:=hxr.cell e1
  have c2:=hxr.cell e2
  have c3:=hxr.cell e3
  have c4:=hxr.cell e4
  have HS:=zH (fun (h:xs.getD k (0,0)=ys.getD k (0,0))=>(fun i (hi:i < k+1)=>by
   rcases Nat.lt_or_ge i k with h' | h'
   ·exact hq.out i h'
   ·obtain rfl:i=k:=by omega
    exact h:∀i,i < k+1→xs.getD i (0,0)=ys.getD i (0,0)))
  have HD:=zH (fun (h:xs.getD k (0,0)≠ys.getD k (0,0))=>(fun e:xs=ys=>h (by rw [e]):xs≠ys))
  clear e1 e2 e3 e4 hc hc2 HL HL2 hq HN
  generalize xs.getD k (0,0)=x at*
  generalize ys.getD k (0,0)=y at*
  obtain ⟨a,s⟩:=x
  obtain ⟨c,d⟩:=y
  simp only at c1 c2 c3 c4
  have ib1:(k:Int) < (xs.length:Int):=by omega
  have ib2:(k:Int) < (ys.length:Int):=by omega
  have ib3:(0:Int)≤(k:Int):=by omega
  by_cases he:a=c∧s=d
  ·obtain ⟨rfl,rfl⟩:=he
   go_wp2_with fail
   go_quiet (fail)
   go_wp2_with fail
   go_roundw
   case rel=>exact ⟨k+1,by omega,by go_num,hxr.drewN _,zH (HS.out (by first | rfl | trivial))⟩
   case measure=>simp [intOf];omega
  ·have HE:=zH (HD.out (by intro e;injection e with e1 e2;exact he ⟨e1,e2⟩))
   have hb:(a==c)=false∨(a=c∧(s==d)=false):=by
    by_cases h1:a=c
    ·exact .inr ⟨h1,by rw [beq_eq_false_iff_ne];exact fun h=>he ⟨h1,h⟩⟩
    ·exact .inl (by rw [beq_eq_false_iff_ne];exact h1)
   clear he HD HS
   rcases hb with hb | ⟨rfl,hb⟩
   all_goals
    go_wp2_with fail
    go_quiet (fail)
    go_wp2_with fail
    go_ret
    exact ⟨aD (decide_eq_false HE.out).symm,hxr.drewN _⟩
def fE (zs:List (Int×Int)):Bool:=decide (∀i,i < zs.length→mayB (zs.getD i (0,0)).1 (zs.getD i (0,0)).2=true∧∀j,j < i→j+1=i→(zs.getD j (0,0)).1+(zs.getD j (0,0)).2≤(zs.getD i (0,0)).1)
theorem mm {zs:List (Int×Int)} (h:∀i,i < zs.length→mayB (zs.getD i (0,0)).1 (zs.getD i (0,0)).2=true∧∀j,j < i→j+1=i→(zs.getD j (0,0)).1+(zs.getD j (0,0)).2≤(zs.getD i (0,0)).1):fE zs=true:=decide_eq_true h
theorem tt {zs:List (Int×Int)} {j:Nat} (hi:j+1 < zs.length) (h:(zs.getD (j+1) (0,0)).1 < (zs.getD j (0,0)).1+(zs.getD j (0,0)).2):fE zs=false:=
 decide_eq_false fun H=>by have:=(H (j+1) hi).2 j oM rfl;omega
theorem ib (a s c d:Int):cQ a s c d=cQ c d a s:=by
 unfold cQ
 cases mayB a s <;>cases mayB c d <;>simp [Bool.or_comm]
theorem tu {xs:List (Int×Int)}:fY xs=true↔(∀x∈xs,mayB x.1 x.2=true)∧xs.Pairwise (fun x y=>cQ x.1 x.2 y.1 y.2=false):=by
 unfold fY
 rw [decide_eq_true_iff]
 have gd:∀i (h:i < xs.length),xs.getD i (0,0)=xs[i]:=fun i h=>by simp [List.getElem?_eq_getElem h]
 constructor
 ·intro h
  refine ⟨fun x hx=> ?_,List.pairwise_iff_getElem.2 fun i j hi hj hij=> ?_⟩
  ·obtain ⟨i,hi,rfl⟩:=List.getElem_of_mem hx
   have:=(h i hi).1
   rwa [gd i hi]at this
  ·have:=(h j hj).2 i hij
   rwa [gd i hi,gd j hj,ib]at this
 ·rintro ⟨h1,h2⟩ i hi
  rw [gd i hi]
  refine ⟨h1 _ (List.getElem_mem hi),fun k hk=> ?_⟩
  rw [gd k oM,ib]
  exact List.pairwise_iff_getElem.1 h2 k i oM hi hk
theorem rZ (xs:List (Int×Int)):fE (sortS xs)=fY xs:=by
 rw [Bool.eq_iff_iff,tu]
 have hp:=gM xs
 have hs:=dw xs
 have hsym:∀ {x y:Int×Int},cQ x.1 x.2 y.1 y.2=false→cQ y.1 y.2 x.1 x.2=false:=fun h=>by rw [ib];exact h
 rw [show (∀x∈xs,mayB x.1 x.2=true)↔(∀x∈sortS xs,mayB x.1 x.2=true)from ⟨fun h x hx=>h x (hp.mem_iff.1 hx),fun h x hx=>h x (hp.mem_iff.2 hx)⟩,
  ←hp.pairwise_iff hsym]
 generalize sortS xs=zs at*
 unfold fE
 rw [decide_eq_true_iff]
 have gd:∀i (h:i < zs.length),zs.getD i (0,0)=zs[i]:=fun i h=>by simp [List.getElem?_eq_getElem h]
 constructor
 ·intro h
  have hm:∀i (h:i < zs.length),mayB zs[i].1 zs[i].2=true:=fun i hi=>by have:=(h i hi).1;rwa [gd i hi]at this
  have key:∀(d i:Nat) (hi:i+d+1 < zs.length),zs[i].1+zs[i].2≤zs[i+d+1].1:=by
   intro d
   induction d with
   | zero=>
    intro i hi
    have:=(h (i+1) hi).2 i oM rfl
    rwa [gd i oM,gd (i+1) hi]at this
   | succ d ih=>
    intro i hi
    have h1:=ih i oM
    have h2:=(h (i+d+1+1) oM).2 (i+d+1) oM rfl
    rw [gd _ oM,gd _ oM]at h2
    have h3:=am (hm (i+d+1) oM)
    have h4:i+(d+1)+1=i+d+1+1:=by omega
    simp only [h4]
    omega
  refine ⟨fun x hx=> ?_,List.pairwise_iff_getElem.2 fun i j hi hj hij=> ?_⟩
  ·obtain ⟨i,hi,rfl⟩:=List.getElem_of_mem hx
   exact hm i hi
  ·obtain ⟨d,rfl⟩:∃d,j=i+d+1:=⟨j - i - 1,by omega⟩
   have:=key d i hj
   rw [ma (hm i hi) (hm _ hj)]
   simp
   omega
 ·rintro ⟨h1,h2⟩ i hi
  have hm:∀i (h:i < zs.length),mayB zs[i].1 zs[i].2=true:=fun i hi=>h1 _ (List.getElem_mem hi)
  refine ⟨by rw [gd i hi];exact hm i hi,fun j _ hj=> ?_⟩
  subst hj
  rw [gd j oM,gd (j+1) hi]
  have h3:=List.pairwise_iff_getElem.1 h2 j (j+1) oM hi oM
  rw [ma (hm j oM) (hm _ hi)]at h3
  have h4:=List.pairwise_iff_getElem.1 hs j (j+1) oM hi oM
  rw [cA]at h4
  have h5:=am (hm j oM)
  have h6:=am (hm (j+1) hi)
  simp at h3
  omega
theorem RetS.open {w:World} {xs:List (Int×Int)} {e:Ending} {w':World} (h:RetS w w.heap.size xs e w'):∃A cap,e= .returned (.slice A xs.length cap)∧SpansAt w' A xs∧Ext w w':=by
 obtain ⟨v,rfl,ho,hb⟩:=h
 obtain ⟨A,cap,rfl,hr,_⟩:=ho.form aE dM
 exact ⟨A,cap,rfl,hr,hb⟩
end Go.Proofs.YtphpppjfogpohaaGreat
namespace Go.Proofs.YtphpppjfogpohaaGreat
def fP (a s:Int) (xs:List (Int×Int)) (p:Int):Prop:=hasB a s p=true∧ac xs p=false
def eQ (a s:Int) (xs zs:List (Int×Int)):Prop:=Canon zs (fP a s xs)
theorem jy {ys:List (Int×Int)} {es:List Int} (h:EndsOf ys es) {i:Nat} (hi:i+1 < es.length) {p:Int} (h1:es[i]≤p) (h2:p < es[i+1]) {x:Int×Int} (hx:x∈ys) (hm:mayB x.1 x.2=true):InS x p↔InS x es[i]:=by
 have no:∀z∈es,z≤es[i]∨es[i+1]≤z:=by
  intro z hz
  obtain ⟨j,hj,rfl⟩:=List.getElem_of_mem hz
  rcases Nat.lt_trichotomy j i with hlt | rfl | hgt
  ·exact .inl (Int.le_of_lt (List.pairwise_iff_getElem.1 h.inc j i oM oM hlt))
  ·exact .inl (Int.le_refl _)
  ·rcases Nat.lt_or_ge (i+1) j with h3 | h3
   ·exact .inr (Int.le_of_lt (List.pairwise_iff_getElem.1 h.inc (i+1) j oM oM h3))
   ·obtain rfl:j=i+1:=by omega
    exact .inr (Int.le_refl _)
 have a1:=no x.1 ((h.mem _).2 ⟨x,hx,hm,.inl rfl⟩)
 have a2:=no (x.1+x.2) ((h.mem _).2 ⟨x,hx,hm,.inr rfl⟩)
 constructor
 ·rintro ⟨b1,b2⟩;exact ⟨by omega,by omega⟩
 ·rintro ⟨b1,b2⟩;exact ⟨by omega,by omega⟩
theorem oW {a s:Int} {xs:List (Int×Int)} {es:List Int} (h:EndsOf ((a,s)::xs) es) {i:Nat} (hi:i+1 < es.length) {p:Int} (h1:es[i]≤p) (h2:p < es[i+1]):hasB a s p=hasB a s es[i]∧ac xs p=ac xs es[i]:=by
 constructor
 ·rw [Bool.eq_iff_iff,fD,fD]
  exact ⟨fun ⟨hm,hp⟩=>⟨hm,(jy h hi h1 h2 (x:=(a,s)) sM hm).1 hp⟩,fun ⟨hm,hp⟩=>⟨hm,(jy h hi h1 h2 (x:=(a,s)) sM hm).2 hp⟩⟩
 ·rw [Bool.eq_iff_iff,cC,cC]
  exact ⟨fun ⟨x,hx,hm,hp⟩=>⟨x,hx,hm,(jy h hi h1 h2 (by simp [hx]) hm).1 hp⟩,fun ⟨x,hx,hm,hp⟩=>⟨x,hx,hm,(jy h hi h1 h2 (by simp [hx]) hm).2 hp⟩⟩
theorem gT {a s:Int} {xs:List (Int×Int)} {p:Int} (h:fP a s xs p):ac ((a,s)::xs) p=true:=by
 rw [cC]
 obtain ⟨hm,hp⟩:=fD.1 h.1
 exact ⟨(a,s),by simp,hm,hp⟩
theorem tv {a s:Int} {xs:List (Int×Int)} {es:List Int} (h:EndsOf ((a,s)::xs) es) (h0:0 < es.length):JoinTo (fP a s xs) es[0] []:=by
 refine ⟨Canon.nil fun p hp=> ?_,by simp⟩
 obtain ⟨i,hi,h1,h2⟩:=iY h (gT hp.1)
 rcases Nat.eq_zero_or_pos i with rfl | h3
 ·omega
 ·have:=List.pairwise_iff_getElem.1 h.inc 0 i h0 oM h3
  have:=hp.2
  omega
theorem xm {a s:Int} {xs zs:List (Int×Int)} {es:List Int} (h:EndsOf ((a,s)::xs) es) (h0:0 < es.length) (hz:JoinTo (fP a s xs) (es[es.length - 1]'oM) zs):eQ a s xs zs:=by
 refine hz.canon.congr fun p=>⟨fun a=>a.1,fun a=>⟨a,?_⟩⟩
 obtain ⟨i,hi,h1,h2⟩:=iY h (gT a)
 rcases Nat.lt_or_ge (i+1) (es.length - 1)with h3 | h3
 ·have:=List.pairwise_iff_getElem.1 h.inc (i+1) (es.length - 1) hi oM h3
  omega
 ·have e:i+1=es.length - 1:=by omega
  simp only [←e]
  exact h2
theorem pj {a s:Int} {xs:List (Int×Int)} {es:List Int} (h:EndsOf ((a,s)::xs) es) (h0:es.length≤0):eQ a s xs []:=
 Canon.nil fun p hp=>by obtain ⟨i,hi,_⟩:=iY h (gT hp);omega
theorem rf {a s:Int} {xs zs:List (Int×Int)} {e:Int} (h:JoinTo (fP a s xs) e zs):∀x∈zs,0≤x.1∧0≤x.2∧x.1+x.2≤e:=by
 intro x hx
 have h1:=h.canon.pos x hx
 have h2:=h.upto x hx
 have h3:=((h.canon.mem x.1).1 ⟨x,hx,by omega,by omega⟩).1.1
 obtain ⟨hm,h4,h5⟩:=fD.1 h3
 have:=am hm
 omega
def fQ (st:List (Int×Int)×Int) (x:Int×Int):List (Int×Int)×Int:=(if st.2 < x.1 then st.1++ [(st.2,x.1 - st.2)]else st.1,max st.2 (x.1+x.2))
def foldG (a:Int) (l:List (Int×Int)):List (Int×Int)×Int:=l.foldl fQ ([],a)
def gp (a s:Int) (st:List (Int×Int)×Int):List (Int×Int):=if st.2 < a+s then st.1++ [(st.2,a+s - st.2)]else st.1
theorem ko (a:Int) (l:List (Int×Int)) (x:Int×Int):foldG a (l++ [x])=fQ (foldG a l) x:=by simp [foldG]
structure InvG (a:Int) (l:List (Int×Int)) (st:List (Int×Int)×Int):Prop where
 canon:Canon st.1 (fun p=>a≤p∧p < st.2∧¬∃x∈l,InS x p)
 lt:∀y∈st.1,y.1+y.2 < st.2
 ends:∀x∈l,x.1+x.2≤st.2
 att:st.2=a∨∃x∈l,st.2=x.1+x.2
 ge:a≤st.2
theorem InvG.step {a:Int} {l:List (Int×Int)} {st:List (Int×Int)×Int} {x:Int×Int} (h:InvG a l st) (hx:1≤x.2) (hl:∀y∈l,y.1+y.2 < x.1):InvG a (l++ [x]) (fQ st x):=by
 obtain ⟨out,at0⟩:=st
 obtain ⟨hc,hlt,he,ha,hg⟩:=h
 simp only at hc hlt he ha hg
 have hpre:∀p,(∃y∈l++ [x],InS y p)↔(∃y∈l,InS y p)∨InS x p:=by
  intro p
  constructor
  ·rintro ⟨y,hy,hp⟩
   rw [List.mem_append,List.mem_singleton]at hy
   rcases hy with hy | rfl
   ·exact .inl ⟨y,hy,hp⟩
   ·exact .inr hp
  ·rintro (⟨y,hy,hp⟩ | hp)
   ·exact ⟨y,by simp [hy],hp⟩
   ·exact ⟨x,by simp,hp⟩
 have hno:∀p,at0≤p→¬∃y∈l,InS y p:=by
  rintro p hp ⟨y,hy,h1,h2⟩
  have:=he y hy
  omega
 have ends':∀y∈l++ [x],y.1+y.2≤max at0 (x.1+x.2):=by
  intro y hy
  rw [List.mem_append,List.mem_singleton]at hy
  rcases hy with hy | rfl
  ·have:=he y hy;omega
  ·omega
 by_cases hj:at0 < x.1
 ·have e:fQ (out,at0) x=(out++ [(at0,x.1 - at0)],max at0 (x.1+x.2)):=by simp [fQ,hj]
  rw [e]
  refine ⟨dy hc (by simp only;omega) hlt fun p=> ?_,fun y hy=> ?_,ends',.inr ⟨x,by simp,by simp only;omega⟩,by simp only;omega⟩
  ·simp only [hpre p]
   constructor
   ·rintro ⟨h1,h2,h3⟩
    by_cases hp:p < at0
    ·exact .inl ⟨h1,hp,fun h=>h3 (.inl h)⟩
    ·refine .inr ⟨by simp only;omega,?_⟩
     have:¬InS x p:=fun h=>h3 (.inr h)
     simp only [InS]at this⊢
     omega
   ·rintro (⟨h1,h2,h3⟩ | ⟨h1,h2⟩)
    ·exact ⟨h1,by omega,fun h=>h.elim h3 (fun ⟨h4,_⟩=>by omega)⟩
    ·simp only at h1 h2
     exact ⟨by omega,by omega,fun h=>h.elim (hno p h1) (fun ⟨h4,_⟩=>by omega)⟩
  ·rw [List.mem_append,List.mem_singleton]at hy
   rcases hy with hy | rfl
   ·have:=hlt y hy;simp only;omega
   ·simp only;omega
 ·have e:fQ (out,at0) x=(out,max at0 (x.1+x.2)):=by simp [fQ,hj]
  have hat:at0=a:=by
   rcases ha with h | ⟨y,hy,h⟩
   ·exact h
   ·have:=hl y hy;omega
  rw [e]
  refine ⟨hc.congr fun p=> ?_,fun y hy=>by have:=hlt y hy;simp only;omega,ends',?_,by simp only;omega⟩
  ·simp only [hpre p]
   constructor
   ·rintro ⟨h1,h2,h3⟩;omega
   ·rintro ⟨h1,h2,h3⟩
    exfalso
    have:¬InS x p:=fun h=>h3 (.inr h)
    simp only [InS]at this
    omega
  ·by_cases hm:at0≤x.1+x.2
   ·exact .inr ⟨x,by simp,by simp only;omega⟩
   ·exact .inl (by simp only;omega)
theorem InvG.start (a:Int):InvG a [] ([],a):=⟨Canon.nil (by intro p;simp only;omega),by simp,by simp,.inl rfl,Int.le_refl _⟩
theorem invG (a:Int) (js:List (Int×Int)) (hp:∀x∈js,1≤x.2) (ha:js.Pairwise (fun x y=>x.1+x.2 < y.1)):∀pre,pre <+:js→InvG a pre (foldG a pre):=by
 intro pre
 obtain ⟨n,hn⟩:∃n,pre.length=n:=⟨_,rfl⟩
 induction n generalizing pre with
 | zero=>
  intro _
  obtain rfl:=List.eq_nil_of_length_eq_zero hn
  exact InvG.start a
 | succ n ih=>
  intro h
  rcases List.eq_nil_or_concat pre with rfl | ⟨ys,x,rfl⟩
  ·simp at hn
  rw [List.concat_eq_append]at*
  have hys:ys <+:js:=(List.prefix_append ys [x]).trans h
  rw [ko]
  have hpw:=ha.sublist h.sublist
  rw [List.pairwise_append]at hpw
  exact (ih ys (by simpa using hn) hys).step (hp x (h.subset sM)) fun y hy=>hpw.2.2 y hy x sM
theorem kq {a s:Int} {xs js:List (Int×Int)} (hm:mayB a s=true) (hj:vX xs js) {pre:List (Int×Int)} (hpre:pre <+:js) (hlt:∀x∈pre,x.1 < a+s)
  (hrest:pre=js∨∃x,pre++ [x] <+:js∧a+s≤x.1):eQ a s xs (gp a s (foldG a pre)):=by
 have hI:=invG a js hj.pos hj.apart pre hpre
 have hmb:=am hm
 have hcov:∀p,p < a+s→(ac xs p=true↔∃x∈pre,InS x p):=by
  intro p hp
  rw [←hj.mem p]
  constructor
  ·rintro ⟨y,hy,h1,h2⟩
   rcases hrest with rfl | ⟨x,⟨tl,ht⟩,hx⟩
   ·exact ⟨y,hy,h1,h2⟩
   ·rw [←ht,List.mem_append,List.mem_append,List.mem_singleton]at hy
    rcases hy with (hy | rfl) | hy
    ·exact ⟨y,hy,h1,h2⟩
    ·omega
    ·have hap:=hj.apart
     rw [←ht,List.pairwise_append]at hap
     have:=hap.2.2 x sM y hy
     have:=hj.pos x (by rw [←ht];simp)
     omega
  ·rintro ⟨y,hy,h⟩
   exact ⟨y,hpre.subset hy,h⟩
 generalize foldG a pre=st at*
 obtain ⟨out,at0⟩:=st
 obtain ⟨hc,hl,he,ha,hg⟩:=hI
 simp only at hc hl he ha hg
 have hleft:∀p,fP a s xs p↔a≤p∧p < a+s∧¬∃x∈pre,InS x p:=by
  intro p
  unfold fP
  rw [fD]
  constructor
  ·rintro ⟨⟨_,h1,h2⟩,h3⟩
   exact ⟨h1,h2,fun h=>by rw [(hcov p h2).2 h]at h3;cases h3⟩
  ·rintro ⟨h1,h2,h3⟩
   refine ⟨⟨hm,h1,h2⟩,?_⟩
   cases hb:ac xs p
   ·rfl
   ·exact absurd ((hcov p h2).1 hb) h3
 have hno:∀p,at0≤p→¬∃y∈pre,InS y p:=by
  rintro p hp ⟨y,hy,h1,h2⟩
  have:=he y hy
  omega
 unfold gp eQ
 by_cases hr:at0 < a+s
 ·rw [if_pos hr]
  refine dy hc (by simp only;omega) hl fun p=> ?_
  rw [hleft p]
  constructor
  ·rintro ⟨h1,h2,h3⟩
   by_cases hp:p < at0
   ·exact .inl ⟨h1,hp,h3⟩
   ·exact .inr ⟨by simp only;omega,by simp only;omega⟩
  ·rintro (⟨h1,h2,h3⟩ | ⟨h1,h2⟩)
   ·exact ⟨h1,by omega,h3⟩
   ·simp only at h1 h2
    exact ⟨by omega,by omega,hno p h1⟩
 ·rw [if_neg hr]
  refine hc.congr fun p=> ?_
  rw [hleft p]
  constructor
  ·rintro ⟨h1,h2,h3⟩
   refine ⟨h1,?_,h3⟩
   rcases ha with h | ⟨y,hy,h⟩
   ·omega
   ·rcases Int.lt_or_le p (a+s)with h4 | h4
    ·exact h4
    ·have:=hlt y hy
     exact absurd ⟨y,hy,by omega,by omega⟩ h3
  ·rintro ⟨h1,h2,h3⟩;exact ⟨h1,by omega,h3⟩
end Go.Proofs.YtphpppjfogpohaaGreat
namespace Go.Proofs.YtphpppjfogpohaaGreat
open Go.RowKit
section
variable {α : Type} {e : TypeId} {n : Nat} {f : α → List Value} {B : Nat} {v : Value} {xs ys : List α} {w : World} {P : Program} {bytes : Nat}
theorem Own.lit (hf:Cells n f) (ys:List α) (cs:Array Value) (hcs:cs=(ys.flatMap f).toArray) (m:Nat) (hm:ys.length=m) (hB:B≤w.heap.size) (h63:m≤maxLen) (H:Nat) (hH:w.heap.size=H):
  Own e n f (w.alloc (.cells cs e)) B (.slice (some ⟨H,0,none⟩) m m) ys:=by
 subst hcs hm hH
 refine ⟨cS hf ys,.inr ⟨w.heap.size,ys.length,_,rfl,hB,heap_alloc_new w _,Nat.le_refl _,h63,by simp [cS hf],?_⟩⟩
 rw [List.take_of_length_le (by simp [cS hf])]
theorem kr {ops:Array Oper} {rest:List Oper} {o:Oper} {a:Act} {Q:Exit→Act→World→Prop} (hgd:o.guard=none) (s x:Operand) (t:TypeId)
  (ho:o.op= .call {callee:= .builtin .append,args:= #[s,x],argTypes:= #[t,t]}) (hI:Info P t e n bytes) (hf:Cells n f)
  (hs:a.eval s=v) (hown:Own e n f w B v xs) (ys:List α) (A:Option Addr) (c:Nat) (hA:A=none→c=0) (r m:Nat) (hk:xs.length+ys.length=r) (hm:ys.length=m) (hx:a.eval x= .slice A m c) (hr:RowAt n f w A ys)
  (hlen:r*bytes≤140737488355328) (h63:r≤maxLen) (hB:B≤w.heap.size)
  (h:∀A cap w',Own e n f w' B (.slice A r cap) (xs++ys)→w.grownBy w' v.ownBlock→
   ((Value.slice A r cap).ownBlock=v.ownBlock∨(Value.slice A r cap).ownBlock=some w.heap.size)→
   wpList P ops Q rest (a.put o.dst (.slice A r cap)) w'):wpList P ops Q (o::rest) a w:=by
 cases A with
 | some ad=>exact ai hgd s x t ho hI hf hs hown ys ad c r m hk hm hx hr hlen h63 hB h
 | none=>
  have hys:ys= []:=by
   obtain ⟨b,off,hA,_⟩:=hr
   cases ys with
   | nil=>rfl
   | cons y ys=>exact absurd (hA sM) sM
  subst hys hm
  obtain rfl:=hA rfl
  obtain ⟨A0,cap0,rfl,_⟩:=hown.form hf hI.pos
  simp only [List.length_nil,Nat.add_zero]at hk
  subst hk
  refine ee hgd s x t ho hI hs hown hx (h A0 cap0 w (by simpa using hown) (World.grownBy.refl _ _) (.inl rfl))
end
theorem io {W:World} (A:Option Addr) (cap:Nat) (xs:List (Int×Int)) (p:Int) (b:Bool) (h:ac xs p=b) (hlen:xs.length≤9223372036854775807) (hl:SpansAt W A xs) (u:ExtOf W):
  Calls Tryz.prog 211 #[.slice A xs.length cap,.int .i64 p] u.1 fun e w'=>e= .returned (.bool b)∧Ext u.1 w':=by
 rw [←h];exact kK A cap xs p u.1 hlen (hl.ext u.2)
def yu (W:World) (a s:Int) (xs:List (Int×Int)) (es:List Int) (v i:Value) (wr:World):Prop:=
 ∃(k:Nat) (zs:List (Int×Int)),i= .int .i64 k∧(es.length=0∧k=0∨k+1≤es.length)∧zs.length≤k∧OwnS wr W.heap.size v zs∧
  (es.length=0∧zs= []∨JoinTo (fP a s xs) (es.getD k 0) zs)∧Ext W wr∧(∀x∈zs,Lo x.1∧Lo x.2)
theorem pk (a s:Int) (A:Option Addr) (cap:Nat) (xs:List (Int×Int)) (U0:World) (hA:A=none→cap=0) (hlen:xs.length≤100000) (hl:SpansAt U0 A xs):
  Calls Tryz.prog 180 #[.agg #[.int .i64 (a),.int .i64 (s)],.slice A xs.length cap] U0 (fun e w'=>∃zs,eQ a s xs zs∧RetS U0 U0.heap.size zs e w'):=by
 have HL:=zH hl
 clear hl
 go_enter Tryz.func180,Tryz.ntmps180
 have k0:=fun w'=>bD U0 #[.int .i64 a,.int .i64 s] 63 0 (.int .i64 a) rfl w'
 have k1:=fun w'=>bD U0 #[.int .i64 a,.int .i64 s] 63 1 (.int .i64 s) rfl w'
 have HLIT:Hid (∀B,B≤U0.heap.size+1→OwnS ((U0.alloc (.cells #[.int .i64 a,.int .i64 s] 63)).alloc (.cells #[.int .i64 a,.int .i64 s] 63)) B (.slice (some ⟨U0.heap.size+1,0,none⟩) 1 1) [(a,s)]):=
  zH fun B hB=>Own.lit aE [(a,s)] _ rfl 1 rfl (by simpa using hB) (by simp [maxLen]) _ sM
 go_wp2_with (at_builtin;refine kr rfl (.tmp 9) (.tmp 10) 31 rfl aZ aE rfl (by exact HLIT.out U0.heap.size oM) xs A cap hA ([(a,s)]++xs).length xs.length (by first | omega | (simp;done) | (simp;omega) | (simp [maxLen];done) | (simp [maxLen];omega)) rfl rfl (by exact AE HL.out (((zo _).alloc _).alloc _)) (by first | omega | (simp;done) | (simp;omega) | (simp [maxLen];done) | (simp [maxLen];omega)) (by first | omega | (simp;done) | (simp;omega) | (simp [maxLen];done) | (simp [maxLen];omega)) (by first | omega | (simp;done) | (simp;omega) | (simp [maxLen];done) | (simp [maxLen];omega)) ?_;intro A3 cap3 W0 hown3 hgr3 hat3;have HO3:=zH hown3;have hX0:Ext U0 W0:=zw (HLIT.out U0.heap.size oM) (((Below.refl _ _).alloc (Nat.le_refl _) _).alloc sM _) hgr3 (by simp;omega);have hXB:Below (U0.heap.size+1) (U0.alloc (.cells #[.int .i64 a,.int .i64 s] 63)) W0:=zw (HLIT.out (U0.heap.size+1) oM) ((Below.refl _ _).alloc sM _) hgr3 sM;have hXB:Ext (U0.alloc (.cells #[.int .i64 a,.int .i64 s] 63)) W0:=Below.mono hXB sM;clear hown3 hgr3 hat3)
 obtain ⟨_,_,e3,hrow3,_⟩:=HO3.out.form aE dM
 obtain ⟨rfl,_,rfl⟩:_∧_∧_:=by simpa only [Value.slice.injEq]using e3
 have HL3:=zH hrow3
 have hl2:=HL.out.ext hX0
 have hlen':xs.length≤9223372036854775807:=by omega
 refine (pZ A3 cap3 ([(a,s)]++xs) W0 (by simp;omega) HL3.out).mono ?_
 clear e3 hrow3 HO3 HL3
 rintro e W ⟨es,hes,v,rfl,hown,hb⟩
 have hX:Ext W0 W:=hb
 have b0:=fun w' (h:Ext W w')=>k0 w' (hXB.trans (hX.trans h))
 have b1:=fun w' (h:Ext W w')=>k1 w' (hXB.trans (hX.trans h))
 clear k0 k1
 have HES:=zH hes
 have hsz:W0.heap.size≤W.heap.size:=zv hX
 have HLW:=zH (hl2.ext hX)
 obtain ⟨A2,cap2,rfl,hrow, -, -, -, -⟩:=Own.form hown aP dM
 have HR:=zH hrow
 have HXX:=zH hX
 clear hl2 hes hb hown hrow hX HL hXB
 have hel:es.length≤1099511627777:=by
  have h:=HES.out
  rcases Nat.eq_zero_or_pos es.length with h0 | h0
  ·omega
  ·have h1:=rT 0 es h.inc (fun z hz=>(jv h z hz).1) (es.length - 1) oM
   have h2:=(jv h _ (List.getElem_mem (show es.length - 1 < es.length by omega))).2
   omega
 go_wp2_with fail
 go_loopw [6,7] (fun v i wr=>yu W a s xs es v i wr) (fun _ i _=>es.length - (intOf i).toNat)
 case atStart=>
  refine ⟨0,[],rfl,by omega,by simp,AA _ _ _ _ _,?_,zo _,by simp⟩
  rcases Nat.eq_zero_or_pos es.length with h0 | h0
  ·exact .inl ⟨h0,rfl⟩
  ·refine .inr ?_
   have:=tv HES.out h0
   simpa [List.getD,List.getElem?_eq_getElem h0]using this
 case round=>
  obtain ⟨k,zs,rfl,hk,hzl,hown,hj,hE,hlo⟩:=hrel
  have HO:=zH hown
  have HJ:=zH hj
  have HLO:=zH hlo
  have hszr:W.heap.size≤wr.heap.size:=zv hE
  clear hown hj hlo
  have ib9:(es.length:Int)≤1099511627777:=by omega
  by_cases hlt:k+1 < es.length
  rotate_left
  ·have hd:¬((k:Int)+1 < (es.length:Int)):=by omega
   have hk1:(k:Int)≤1099511627777:=by omega
   go_wp2_with fail
   go_ret
   refine ⟨zs,?_,_,rfl,HO.out.mono (Nat.le_trans (zv hX0) hsz),hX0.trans (HXX.out.trans hE)⟩
   rcases HJ.out with ⟨h0,rfl⟩ | hjt
   ·exact pj HES.out oM
   ·rcases hk with ⟨h0,_⟩ | hk
    ·have hkk : zs = [] := by cases zs with
      | nil=>rfl
      | cons=>simp at hzl;omega
     rw [hkk]
     exact pj HES.out oM
    ·obtain rfl:k=es.length - 1:=by omega
     refine xm HES.out oM ?_
     simpa [List.getD,List.getElem?_eq_getElem (show es.length - 1 < es.length by omega)]using hjt
  have hjt:JoinTo (fP a s xs) (es.getD k 0) zs:=by
   rcases HJ.out with ⟨h0,_⟩ | h
   ·omega
   ·exact h
  obtain ⟨b,off,rfl,hc⟩:=HR.out.get oM
  have E1:=zH (b5 hc (show k < es.length by omega))
  have E2:=zH (b5 hc hlt)
  have c1:∀w',Ext W w'→w'.cell? ⟨b,off+k,none⟩=some (.int .i64 (es.getD k 0)):=fun w' h=>h.cell E1.out
  have c2:∀w',Ext W w'→w'.cell? ⟨b,off+(k+1),none⟩=some (.int .i64 (es.getD (k+1) 0)):=fun w' h=>h.cell E2.out
  have g1:es.getD k 0=es[k]:=by simp [List.getD,List.getElem?_eq_getElem (show k < es.length by omega)]
  have g2:es.getD (k+1) 0=es[k+1]:=by simp [List.getD,List.getElem?_eq_getElem hlt]
  have l1:=jv HES.out es[k] (List.getElem_mem _)
  have l2:=jv HES.out es[k+1] (List.getElem_mem _)
  have l3:es[k] < es[k+1]:=List.pairwise_iff_getElem.1 HES.out.inc k (k+1) oM hlt oM
  have HB:=zH (fun p h1 h2=>oW HES.out hlt (p:=p) h1 h2)
  have HN:=zH (rf hjt)
  have HJT:=zH hjt
  clear HJ hjt hc
  rw [←g1,←g2]at l3
  rw [←g1]at l1
  rw [←g2]at l2
  replace HB:Hid (∀p,es.getD k 0≤p→p < es.getD (k+1) 0→hasB a s p=hasB a s (es.getD k 0)∧ac xs p=ac xs (es.getD k 0)):=zH (by rw [g1,g2];exact HB.out)
  clear g1 g2
  obtain ⟨l1a,l1b⟩:=l1
  obtain ⟨l2a,l2b⟩:=l2
  generalize es.getD k 0=p at*
  generalize hq:es.getD (k+1) 0=q at*
  have HQ:=zH hq
  clear hq
  have ib0:(0:Int)≤(k:Int):=by omega
  have ib1:(k:Int) < (es.length:Int):=by omega
  have ib2:(k:Int)+1 < (es.length:Int):=by omega
  have HLR:=zH (HLW.out.ext hE)
  have hs0:Ext wr wr:=zo wr
  have l0:∀u:ExtOf wr,u.1.cell? ⟨U0.heap.size,0,none⟩=some (.int .i64 a):=fun u=>b0 u.1 (hE.trans u.2)
  have l1:∀u:ExtOf wr,u.1.cell? ⟨U0.heap.size,1,none⟩=some (.int .i64 s):=fun u=>b1 u.1 (hE.trans u.2)
  have l2:∀u:ExtOf wr,u.1.cell? ⟨b,off+k,none⟩=some (.int .i64 p):=fun u=>c1 u.1 (hE.trans u.2)
  cases hhv:hasB a s p
  ·have HS:=zH (HJT.out.skip l3 (fun r h1 h2 h=>by rw [fP,(HB.out r h1 h2).1,hhv]at h;cases h.1))
   clear HB HJT HN b0 b1 c1 c2
   go_wp2_with fail
   (refine aC (W:=wr) kR kR aS ?_;(repeat (go_big_quiet_step (first | (go_at_call 140;with_reducible exact zq (fa a s p _ hhv _)))));refine wpQuiet_nil ?_;intro w1 hx)
   replace HO:=zH (HO.out.ext hx)
   replace hE:=hE.trans hx
   clear l0 l1 l2 hx
   go_wp2_with fail
   go_roundw
   case rel=>exact ⟨k+1,zs,by go_num,.inr oM,by omega,HO.out,.inr (by rw [HQ.out];exact HS.out),hE,HLO.out⟩
   case measure=>simp [intOf];omega
  cases hcv:ac xs p
  rotate_left
  ·have HS:=zH (HJT.out.skip l3 (fun r h1 h2 h=>by rw [fP,(HB.out r h1 h2).2,hcv]at h;cases h.2))
   clear HB HJT HN b0 b1 c1 c2
   go_wp2_with fail
   (refine aC (W:=wr) kR kR aS ?_;(repeat (go_big_quiet_step (first | (go_at_call 140;with_reducible exact zq (fa a s p _ hhv _)) | (go_at_call 211;with_reducible exact zq (io A cap xs p _ hcv hlen' HLR.out _)))));refine wpQuiet_nil ?_;intro w1 hx)
   replace HO:=zH (HO.out.ext hx)
   replace hE:=hE.trans hx
   clear l0 l1 l2 hx
   go_wp2_with fail
   go_roundw
   case rel=>exact ⟨k+1,zs,by go_num,.inr oM,by omega,HO.out,.inr (by rw [HQ.out];exact HS.out),hE,HLO.out⟩
   case measure=>simp [intOf];omega
  ·have HS:=zH (HJT.out.put l3 (fun r h1 h2=>by rw [fP,(HB.out r h1 h2).1,(HB.out r h1 h2).2,hhv,hcv];exact ⟨rfl,rfl⟩))
   clear HB HJT b0 b1
   go_wp2_with fail
   (refine aC (W:=wr) kR kR aS ?_;(repeat (go_big_quiet_step (first | (go_at_call 140;with_reducible exact zq (fa a s p _ hhv _)) | (go_at_call 211;with_reducible exact zq (io A cap xs p _ hcv hlen' HLR.out _)))));refine wpQuiet_nil ?_;intro w1 hx)
   rename_i w1
   replace HO:=zH (HO.out.ext hx)
   replace hE:=hE.trans hx
   have hszr1:W.heap.size≤w1.heap.size:=zv hE
   clear l0 l1 l2 hx hszr
   have hw1:IntKind.i64.wrap ((k:Int)+1)=(k:Int)+1:=IntWalk.i64_in _ oM
   have hw2:0≤(k:Int)+1:=by omega
   have hw3:((k:Int)+1).toNat=k+1:=by omega
   have HPL:=zH (vY zs p q)
   have HPO:=zH (xd HN.out l1a oM l2b)
   go_wp2_with fail
   go_region_held3 (fun w1=>Ext W w1) (first | (with_reducible assumption) | (exact zx aS) | (with_reducible exact zx (zz aS _)) | (with_reducible exact zz aS _) | (exact zt aS aS)) (first
    | (go_at_call 212;refine (rO W.heap.size _ zs p q _ (by exact hszr1) (by exact HO.out) oM HLO.out ⟨by omega,by omega⟩ ⟨by omega,by omega⟩).mono ?_;rintro e w2 ⟨v2,rfl,hown2,hb2⟩;have HO2:=zH hown2;have hE2:Ext W w2:=Below.trans (zx hE) hb2;clear hown2 hb2))
   clear hw1 hw2 hw3
   go_wp2_with fail
   go_roundw
   case rel=>exact ⟨k+1,putJ zs p q,by go_num,.inr oM,by have:=HPL.out;omega,HO2.out,.inr (by rw [HQ.out];exact HS.out),hE2,HPO.out⟩
   case measure=>simp [intOf];omega
end Go.Proofs.YtphpppjfogpohaaGreat
namespace Go.Proofs.YtphpppjfogpohaaGreat
open Go.RowKit Go.Shelf
theorem dL:Cells 3 dv:=⟨fun _=>rfl,fun x u h=>by simp [dv]at h;rcases h with rfl | rfl | rfl <;>rfl⟩
theorem vl:(Tryz.prog.info? 71).map (fun i=>(i.zero,i.size,i.bytes))=some (some (.agg #[.int .i64 0,.int .i64 0]),2,16):=by kernel_rfl
theorem iI:Info Tryz.prog 25 71 2 16:=
 ⟨Tryz.underlying25,by obtain ⟨i0,hi,hz0,hz1,hz2⟩:=info_parts vl;exact ⟨i0,_,hi,hz0,hz1,hz2,rfl⟩,by decide⟩
theorem tw:(Tryz.prog.info? 66).map (fun i=>(i.zero,i.size,i.bytes))=some (some (.agg #[.int .i64 0,.slice none 0 0,.slice none 0 0]),3,56):=by kernel_rfl
theorem ks:Info Tryz.prog 24 66 3 56:=
 ⟨Tryz.underlying24,by obtain ⟨i0,hi,hz0,hz1,hz2⟩:=info_parts tw;exact ⟨i0,_,hi,hz0,hz1,hz2,rfl⟩,by decide⟩
theorem mT (A A2:Option Addr) (cap cap2:Nat) (xs ys:List Int) (W:World) (hlen:xs.length≤9223372036854775807) (hlen2:ys.length≤9223372036854775807) (hl:WordsAt W A xs) (hl2:WordsAt W A2 ys):
  Calls Tryz.prog 54 #[.slice A xs.length cap,.slice A2 ys.length cap2] W fun e w'=>e= .returned (.bool (decide (xs=ys)))∧Ext W w':=by
 have HL:=zH hl
 have HL2:=zH hl2
 clear hl hl2
 by_cases hne:xs.length=ys.length
 rotate_left
 ·have h1:((xs.length:Int) !=(ys.length:Int))=true:=by rw [bne_iff_ne];omega
  have h2:decide (xs=ys)=false:=by simp;intro e;subst e;exact hne rfl
  have HR:=zH h2
  clear h2 hne
  go_enter Tryz.func54,Tryz.ntmps54
  go_wp2_with fail
  go_ret
  exact ⟨aD (by rw [HR.out]),zo _⟩
 have HN:=zH hne
 have h1:((xs.length:Int) !=(ys.length:Int))=false:=by rw [←HN.out];simp
 clear hne
 go_enter Tryz.func54,Tryz.ntmps54
 go_wp2_with fail
 go_loopw [5] (fun i wr=>∃k:Nat,k≤xs.length∧i= .int .i64 k∧Ext W wr∧Hid (∀i,i < k→xs.getD i 0=ys.getD i 0)) (fun i _=>xs.length - (intOf i).toNat)
 case atStart=>exact ⟨0,by omega,rfl,zo _,zH oM⟩
 case round=>
  obtain ⟨k,hk,rfl,hxr,hq⟩:=hrel
  by_cases hlt:k < xs.length
  rotate_left
  ·have HR:=zH (kh HN.out (fun i hi=>hq.out i oM))
   clear hq
   go_wp2_with fail
   go_ret
   exact ⟨aD (by simp [HR.out]),hxr⟩
  have hlt2:k < ys.length:=by have:=HN.out;omega
  obtain ⟨lb,off,rfl,hc⟩:=HL.out.get oM
  obtain ⟨lb2,off2,rfl,hc2⟩:=HL2.out.get oM
  have e1:=cF hc hlt
  have e3:=cF hc2 hlt2
  have c1:=hxr.cell e1
  have c3:=hxr.cell e3
  have HS:=zH (fun (h:xs.getD k 0=ys.getD k 0)=>(fun i (hi:i < k+1)=>by
   rcases Nat.lt_or_ge i k with h' | h'
   ·exact hq.out i h'
   ·obtain rfl:i=k:=by omega
    exact h:∀i,i < k+1→xs.getD i 0=ys.getD i 0))
  have HD:=zH (fun (h:xs.getD k 0≠ys.getD k 0)=>(fun e:xs=ys=>h (by rw [e]):xs≠ys))
  clear e1 e3 hc hc2 HL HL2 hq HN
  generalize xs.getD k 0=x at*
  generalize ys.getD k 0=y at*
  have ib1:(k:Int) < (xs.length:Int):=by omega
  have ib2:(k:Int) < (ys.length:Int):=by omega
  have ib3:(0:Int)≤(k:Int):=by omega
  by_cases he:x=y
  ·obtain rfl:=he
   go_wp2_with fail
   go_quiet (fail)
   go_wp2_with fail
   go_roundw
   case rel=>exact ⟨k+1,by omega,by go_num,hxr.drewN _,zH (HS.out (by first | rfl | trivial))⟩
   case measure=>simp [intOf];omega
  ·have HE:=zH (HD.out he)
   have hb:(x !=y)=true:=by rw [bne_iff_ne];exact he
   clear he HD HS
   go_wp2_with fail
   go_quiet (fail)
   go_wp2_with fail
   go_ret
   exact ⟨aD (decide_eq_false HE.out).symm,hxr.drewN _⟩
theorem rg (A A2:Option Addr) (cap cap2:Nat) (xs ys:List (Int×Int)) (W:World) (hlen:xs.length≤9223372036854775807) (hlen2:ys.length≤9223372036854775807) (hl:SpansAt W A xs) (hl2:SpansAt W A2 ys):
  Calls Tryz.prog 107 #[.slice A xs.length cap,.slice A2 ys.length cap2] W fun e w'=>e= .returned (.bool (decide (xs=ys)))∧Ext W w':=by
 have HL:=zH hl
 have HL2:=zH hl2
 clear hl hl2
 by_cases hne:xs.length=ys.length
 rotate_left
 ·have h1:((xs.length:Int) !=(ys.length:Int))=true:=by rw [bne_iff_ne];omega
  have h2:decide (xs=ys)=false:=by simp;intro e;subst e;exact hne rfl
  have HR:=zH h2
  clear h2 hne
  go_enter Tryz.func107,Tryz.ntmps107
  go_wp2_with fail
  go_ret
  exact ⟨aD (by rw [HR.out]),zo _⟩
 have HN:=zH hne
 have h1:((xs.length:Int) !=(ys.length:Int))=false:=by rw [←HN.out];simp
 clear hne
 go_enter Tryz.func107,Tryz.ntmps107
 go_wp2_with fail
 go_loopw [5,13] (fun _ i wr=>∃k:Nat,k≤xs.length∧i= .int .i64 k∧Ext W wr∧Hid (∀i,i < k→xs.getD i (0,0)=ys.getD i (0,0))) (fun _ i _=>xs.length - (intOf i).toNat)
 case atStart=>exact ⟨0,by omega,rfl,zo _,zH oM⟩
 case round=>
  obtain ⟨k,hk,rfl,hxr,hq⟩:=hrel
  by_cases hlt:k < xs.length
  rotate_left
  ·have HR:=zH (kh HN.out (fun i hi=>hq.out i oM))
   clear hq
   go_wp2_with fail
   go_ret
   exact ⟨aD (by simp [HR.out]),hxr⟩
  have hlt2:k < ys.length:=by have:=HN.out;omega
  obtain ⟨lb,off,rfl,hc⟩:=HL.out.get oM
  obtain ⟨lb2,off2,rfl,hc2⟩:=HL2.out.get oM
  obtain ⟨e1,e2⟩:=aQ hc hlt
  obtain ⟨e3,e4⟩:=aQ hc2 hlt2
  have c1:=hxr.cell e1
  have c2:=hxr.cell e2
  have c3:=hxr.cell e3
  have c4:=hxr.cell e4
  have HS:=zH (fun (h:xs.getD k (0,0)=ys.getD k (0,0))=>(fun i (hi:i < k+1)=>by
   rcases Nat.lt_or_ge i k with h' | h'
   ·exact hq.out i h'
   ·obtain rfl:i=k:=by omega
    exact h:∀i,i < k+1→xs.getD i (0,0)=ys.getD i (0,0)))
  have HD:=zH (fun (h:xs.getD k (0,0)≠ys.getD k (0,0))=>(fun e:xs=ys=>h (by rw [e]):xs≠ys))
  clear e1 e2 e3 e4 hc hc2 HL HL2 hq HN
  generalize xs.getD k (0,0)=x at*
  generalize ys.getD k (0,0)=y at*
  obtain ⟨a,s⟩:=x
  obtain ⟨c,d⟩:=y
  simp only at c1 c2 c3 c4
  have ib1:(k:Int) < (xs.length:Int):=by omega
  have ib2:(k:Int) < (ys.length:Int):=by omega
  have ib3:(0:Int)≤(k:Int):=by omega
  by_cases he:a=c∧s=d
  ·obtain ⟨rfl,rfl⟩:=he
   go_wp2_with fail
   go_quiet (fail)
   go_wp2_with fail
   go_roundw
   case rel=>exact ⟨k+1,by omega,by go_num,hxr.drewN _,zH (HS.out (by first | rfl | trivial))⟩
   case measure=>simp [intOf];omega
  ·have HE:=zH (HD.out (by intro e;injection e with e1 e2;exact he ⟨e1,e2⟩))
   have hb:(a==c)=false∨(a=c∧(s==d)=false):=by
    by_cases h1:a=c
    ·exact .inr ⟨h1,by rw [beq_eq_false_iff_ne];exact fun h=>he ⟨h1,h⟩⟩
    ·exact .inl (by rw [beq_eq_false_iff_ne];exact h1)
   clear he HD HS
   rcases hb with hb | ⟨rfl,hb⟩
   all_goals
    go_wp2_with fail
    go_quiet (fail)
    go_wp2_with fail
    go_ret
    exact ⟨aD (decide_eq_false HE.out).symm,hxr.drewN _⟩
theorem rh (A A2:Option Addr) (cap cap2:Nat) (xs ys:List Int) (W:World) (hlen:xs.length≤9223372036854775807) (hlen2:ys.length≤9223372036854775807) (hl:WordsAt W A xs) (hl2:WordsAt W A2 ys):
  Calls Tryz.prog 110 #[.slice A xs.length cap,.slice A2 ys.length cap2] W fun e w'=>e= .returned (.bool (decide (xs=ys)))∧Ext W w':=by
 have HL:=zH hl
 have HL2:=zH hl2
 clear hl hl2
 by_cases hne:xs.length=ys.length
 rotate_left
 ·have h1:((xs.length:Int) !=(ys.length:Int))=true:=by rw [bne_iff_ne];omega
  have h2:decide (xs=ys)=false:=by simp;intro e;subst e;exact hne rfl
  have HR:=zH h2
  clear h2 hne
  go_enter Tryz.func110,Tryz.ntmps110
  go_wp2_with fail
  go_ret
  exact ⟨aD (by rw [HR.out]),zo _⟩
 have HN:=zH hne
 have h1:((xs.length:Int) !=(ys.length:Int))=false:=by rw [←HN.out];simp
 clear hne
 go_enter Tryz.func110,Tryz.ntmps110
 go_wp2_with fail
 go_loopw [5,13] (fun _ i wr=>∃k:Nat,k≤xs.length∧i= .int .i64 k∧Ext W wr∧Hid (∀i,i < k→xs.getD i 0=ys.getD i 0)) (fun _ i _=>xs.length - (intOf i).toNat)
 case atStart=>exact ⟨0,by omega,rfl,zo _,zH oM⟩
 case round=>
  obtain ⟨k,hk,rfl,hxr,hq⟩:=hrel
  by_cases hlt:k < xs.length
  rotate_left
  ·have HR:=zH (kh HN.out (fun i hi=>hq.out i oM))
   clear hq
   go_wp2_with fail
   go_ret
   exact ⟨aD (by simp [HR.out]),hxr⟩
  have hlt2:k < ys.length:=by have:=HN.out;omega
  obtain ⟨lb,off,rfl,hc⟩:=HL.out.get oM
  obtain ⟨lb2,off2,rfl,hc2⟩:=HL2.out.get oM
  have e1:=cF hc hlt
  have e3:=cF hc2 hlt2
  have c1:=hxr.cell e1
  have c3:=hxr.cell e3
  have HS:=zH (fun (h:xs.getD k 0=ys.getD k 0)=>(fun i (hi:i < k+1)=>by
   rcases Nat.lt_or_ge i k with h' | h'
   ·exact hq.out i h'
   ·obtain rfl:i=k:=by omega
    exact h:∀i,i < k+1→xs.getD i 0=ys.getD i 0))
  have HD:=zH (fun (h:xs.getD k 0≠ys.getD k 0)=>(fun e:xs=ys=>h (by rw [e]):xs≠ys))
  clear e1 e3 hc hc2 HL HL2 hq HN
  generalize xs.getD k 0=x at*
  generalize ys.getD k 0=y at*
  have ib1:(k:Int) < (xs.length:Int):=by omega
  have ib2:(k:Int) < (ys.length:Int):=by omega
  have ib3:(0:Int)≤(k:Int):=by omega
  by_cases he:x=y
  ·obtain rfl:=he
   go_wp2_with fail
   go_quiet (fail)
   go_wp2_with fail
   go_roundw
   case rel=>exact ⟨k+1,by omega,by go_num,hxr.drewN _,zH (HS.out (by first | rfl | trivial))⟩
   case measure=>simp [intOf];omega
  ·have HE:=zH (HD.out he)
   have hb:(x !=y)=true:=by rw [bne_iff_ne];exact he
   clear he HD HS
   go_wp2_with fail
   go_quiet (fail)
   go_wp2_with fail
   go_ret
   exact ⟨aD (decide_eq_false HE.out).symm,hxr.drewN _⟩
theorem kt (A:Option Addr) (cap:Nat) (xs:List (Int×Int)) (W:World) (hlen:xs.length≤8796093022208) (hl:RowAt 2 aa W A xs):
  Calls Tryz.prog 149 #[.slice A xs.length cap] W fun e w'=>∃A1 cap1,e= .returned (.slice A1 xs.length cap1)∧Own 71 2 aa w' W.heap.size (.slice A1 xs.length cap1) xs∧Ext W w':=by
 have HL:=zH hl
 clear hl
 cases A with
 | none=>
  obtain rfl:=ff HL.out
  have he:=fun w=>Lib.run_eql_slice_nil (P:=Tryz.prog) w 25 71 none 0 cap 0 0 Tryz.underlying25
  simp only [Option.isNone_none]at he
  simp only [List.length_nil]
  clear HL
  go_enter Tryz.func149,Tryz.ntmps149
  go_wp2_with fail
  go_ret
  exact ⟨none,0,rfl,AA _ _ _ _ _,zo _⟩
 | some ad=>
  have he:=fun w=>Lib.run_eql_slice_nil (P:=Tryz.prog) w 25 71 (some ad) xs.length cap 0 0 Tryz.underlying25
  simp only [Option.isNone_some]at he
  go_enter Tryz.func149,Tryz.ntmps149
  go_wp2_with (at_builtin;refine ai rfl (.tmp 5) (.tmp 6) 25 rfl iI aE rfl (by exact AC 71 2 aa W W.heap.size (Nat.le_refl _)) xs ad cap xs.length xs.length sM rfl rfl (by exact AE HL.out ((zo _).alloc _)) oM (by simp [maxLen];try omega) sM ?_;intro A3 cap3 w3 hown3 hgr3 hat3;have HO3:=zH hown3;have hX3:Ext W w3:=zw (AC 71 2 aa W W.heap.size (Nat.le_refl _)) ((Below.refl _ _).alloc (Nat.le_refl _) _) hgr3 sM;clear hown3 hgr3 hat3)
  go_ret
  exact ⟨A3,cap3,rfl,by simpa using HO3.out,hX3⟩
def aY (l:List Int) (x:Int):Int:=match l.findIdx? (fun y=>decide (y=x))with
 | some i=>i
 | none=> -1
theorem iJ {l:List Int} {x:Int} {k:Nat} (hk:k < l.length) (h:l.getD k 0=x) (hq:∀i,i < k→l.getD i 0≠x):aY l x=k:=by
 have:l.findIdx? (fun y=>decide (y=x))=some k:=by
  rw [List.findIdx?_eq_some_iff_getElem]
  refine ⟨hk,by simpa [List.getElem?_eq_getElem hk]using h,fun j hj=> ?_⟩
  have:=hq j hj
  simpa [List.getElem?_eq_getElem (show j < l.length by omega)]using this
 simp [aY,this]
theorem ku {l:List Int} {x:Int} (hq:∀i,i < l.length→l.getD i 0≠x):aY l x= -1:=by
 have:l.findIdx? (fun y=>decide (y=x))=none:=by
  rw [List.findIdx?_eq_none_iff]
  intro y hy
  obtain ⟨i,hi,rfl⟩:=List.getElem_of_mem hy
  simpa [List.getElem?_eq_getElem hi]using hq i hi
 simp [aY,this]
theorem dD (l:List Int) (x:Int):(aY l x= -1∧∀y∈l,y≠x)∨∃k:Nat,k < l.length∧aY l x=k∧l.getD k 0=x∧∀i,i < k→l.getD i 0≠x:=by
 cases h:l.findIdx? (fun y=>decide (y=x))with
 | none=>
  refine .inl ⟨by simp [aY,h],fun y hy=> ?_⟩
  have:=List.findIdx?_eq_none_iff.1 h y hy
  simpa using this
 | some k=>
  obtain ⟨hk,h1,h2⟩:=List.findIdx?_eq_some_iff_getElem.1 h
  refine .inr ⟨k,hk,by simp [aY,h],by simpa [List.getElem?_eq_getElem hk]using h1,fun i hi=> ?_⟩
  have:=h2 i hi
  simpa [List.getElem?_eq_getElem (show i < l.length by omega)]using this
def aj (o:List Int) (v:Int×Int):Int×Int:=if v.1=2 then (2,aY o v.2)else v
def dE (o:List Int) (v:Int×Int):Bool:=decide (v.1=2∧aY o v.2 < 0)
theorem po (l:List Int) (x:Int): -1≤aY l x∧aY l x < l.length:=by
 rcases dD l x with ⟨h,_⟩ | ⟨k,hk,h,_⟩ <;>omega
end Go.Proofs.YtphpppjfogpohaaGreat
