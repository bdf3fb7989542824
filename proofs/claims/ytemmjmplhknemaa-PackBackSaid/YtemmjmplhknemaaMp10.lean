/- Merged by program (merge.py) out of: SortE, SortF, SortG, SortH, SortI, SpanC, SpanD, SpanE. -/
import Derived.WalkSpells
import Derived.Lib.SliceRun
import Derived.Test.YtemmjmplhknemaaMp9
import Derived.Test.YtemmjmplhknemaaMp7
import Derived.Test.YtemmjmplhknemaaMp1
set_option linter.unusedSimpArgs false
set_option linter.unusedVariables false
set_option maxRecDepth 100000
set_option maxHeartbeats 16000000
namespace Go.Proofs.Ytemmjmplhknemaa
open Go.RowKit
def SearchA (w:World) (a m b:Nat) (xs:List (Int×Int)) (vi vj:Value) (wr:World):Prop:=
 ∃(i j:Nat),vi= .int .i64 i∧vj= .int .i64 j∧m≤i∧i≤j∧j≤b∧Ext w wr∧(∀p,m≤p→p < i→leS (gt xs a) (gt xs p)=false)∧(∀p,j≤p→p < b→leS (gt xs a) (gt xs p)=true)
def SwapA (w:World) (B g N cap a b i:Nat) (xs:List (Int×Int)) (vk:Value) (wr:World):Prop:=
 ∃(k:Nat) (zs:List (Int×Int)),vk= .int .i64 k∧a≤k∧k+1≤i∧Below B w wr∧zs.length=N∧Seg a b xs zs∧Rot a (a+1) (k+1) xs zs∧OwnS wr B (.slice (some ⟨g,0,none⟩) N cap) zs
theorem symA_any (B g N cap a m b:Nat) (xs:List (Int×Int)) (w:World) (hB:B≤w.heap.size) (hBg:B≤g) (hN:xs.length=N) (hN2:N≤4000000000000) (ham:m=a+1) (hmb:m < b) (hb:b≤N)
  (hoB:Ordered m b xs) (ho:OwnS w B (.slice (some ⟨g,0,none⟩) N cap) xs):
  Calls Try.prog 94 #[.slice (some ⟨g,0,none⟩) N cap,.int .i64 a,.int .i64 m,.int .i64 b,.func (.func 89) #[] #[]] w
   (InPlace w B g N cap (fun ys=>Seg a b xs ys∧Ordered a b ys)):=by
 have HO:=zH ho
 have HN:=zH hN
 have HAM:=zH ham
 have HOB:=zH hoB
 clear ho hN hoB
 have i1:(m:Int) - (a:Int)=1:=by omega
 have i2:(m:Int) < (b:Int):=by omega
 have i3:(b:Int)≤4000000000000:=by omega
 have i4:(0:Int)≤(a:Int):=by omega
 have i5:(a:Int) < (m:Int):=by omega
 have i6:(b:Int)≤(N:Int):=by omega
 clear ham
 go_enter Try.func94,Try.ntmps94
 go_wp2_with fail
 go_loopw [10,11] (fun i j wr=>SearchA w a m b xs i j wr) (fun i j _=>(intOf j).toNat - (intOf i).toNat)
 case atStart=>exact ⟨m,b,rfl,rfl,by omega,by omega,by omega,Ext.refl _,fun p h1 h2=>by omega,fun p h1 h2=>by omega⟩
 case round=>
  obtain ⟨i,j,rfl,rfl,hmi,hij,hjb,hext,hlo,hhi⟩:=hrel
  have HLO:=zH hlo
  have HHI:=zH hhi
  have HW:=zH (HO.out.ext hext)
  have HE:=zH hext
  clear hlo hhi hext
  by_cases hlt:i < j
  ·obtain ⟨h,hh⟩:∃h,h=(i+j)/2:=⟨_,rfl⟩
   have k1:(i:Int)≤(h:Int):=by omega
   have k2:(h:Int) < (j:Int):=by omega
   have k3:(i:Int) < (j:Int):=by omega
   have k4:(m:Int)≤(i:Int):=by omega
   have k5:(j:Int)≤(b:Int):=by omega
   have hm:((i:Int)+(j:Int))/2=(h:Int):=by omega
   have HH:=zH hh
   clear hh
   go_wp2_with fail
   clear hm
   obtain ⟨W,rfl⟩:∃W:World,W=wr:=⟨_,rfl⟩
   have hs0:Ext W W:=Ext.refl W
   obtain ⟨p1,p2, -, -⟩:=HW.out.at HN.out (show h < N by omega)
   obtain ⟨q1,q2, -, -⟩:=HW.out.at HN.out (show a < N by omega)
   generalize hgx:gt xs h=x at*
   generalize hgy:gt xs a=y at*
   have HX:=zH (And.intro hgx hgy)
   obtain ⟨x1,x2⟩:=x
   obtain ⟨y1,y2⟩:=y
   have P1:=zH p1
   have P2:=zH p2
   have Q1:=zH q1
   have Q2:=zH q2
   clear hgx hgy p1 p2 q1 q2
   have c1:∀w',Ext W w'→w'.cell? ⟨g,h*2,none⟩=some (.int .i64 x1):=fun w' h=>h.cell P1.out
   have c2:∀w',Ext W w'→w'.cell? ⟨g,h*2+1,none⟩=some (.int .i64 x2):=fun w' h=>h.cell P2.out
   have c3:∀w',Ext W w'→w'.cell? ⟨g,a*2,none⟩=some (.int .i64 y1):=fun w' h=>h.cell Q1.out
   have c4:∀w',Ext W w'→w'.cell? ⟨g,a*2+1,none⟩=some (.int .i64 y2):=fun w' h=>h.cell Q2.out
   have k6:(0:Int)≤(h:Int):=by omega
   have k7:(h:Int) < (N:Int):=by omega
   have k8:(a:Int) < (N:Int):=by omega
   cases hle:leS (y1,y2) (x1,x2)
   ·have hz:byZ (x1,x2) (y1,y2) < 0:=byZ_neg.2 hle
    go_region_held3 (fun w1=>Ext W w1) (first | (with_reducible assumption) | (exact Ext.drew (by with_reducible assumption)) | (with_reducible exact Ext.drew (Ext.alloc (by with_reducible assumption) _)) | (with_reducible exact Ext.alloc (by with_reducible assumption) _) | (exact Ext.trans (by with_reducible assumption) (by with_reducible assumption))) (first | (go_at_call 89;refine (by_any (x1,x2) (y1,y2) _).mono ?_;rintro e w1 ⟨rfl,hx⟩))
    go_wp2_with fail
    go_roundw
    case rel=>exact ⟨h+1,j,by go_num,rfl,by omega,by omega,by omega,HE.out.trans (by with_reducible assumption),fun p h1 h2=>by
     rcases Nat.lt_or_ge p h with h3 | h3
     ·exact ltS_trans (y:=gt xs h) (HOB.out p h h1 h3 (by omega)) (by rw [HX.out.1,HX.out.2];exact hle)
     ·obtain rfl:p=h:=by omega
      rw [HX.out.1,HX.out.2];exact hle,by rw [HX.out.2];exact HHI.out⟩
    case measure=>simp [intOf];omega
   ·have hz:¬byZ (x1,x2) (y1,y2) < 0:=fun h=>by rw [byZ_neg.1 h]at hle;cases hle
    have hz1:0≤byZ (x1,x2) (y1,y2):=by omega
    go_region_held3 (fun w1=>Ext W w1) (first | (with_reducible assumption) | (exact Ext.drew (by with_reducible assumption)) | (with_reducible exact Ext.drew (Ext.alloc (by with_reducible assumption) _)) | (with_reducible exact Ext.alloc (by with_reducible assumption) _) | (exact Ext.trans (by with_reducible assumption) (by with_reducible assumption))) (first | (go_at_call 89;refine (by_any (x1,x2) (y1,y2) _).mono ?_;rintro e w1 ⟨rfl,hx⟩))
    go_wp2_with fail
    go_roundw
    case rel=>exact ⟨i,h,rfl,rfl,by omega,by omega,by omega,HE.out.trans (by with_reducible assumption),(by rw [HX.out.2];exact HLO.out),fun p h1 h2=>
     leS_trans _ _ _ (show leS (gt xs a) (gt xs h)=true by rw [HX.out.1,HX.out.2];exact hle) (HOB.out.le (by omega) h1 h2)⟩
    case measure=>simp [intOf];omega
  ·have k3:(j:Int)≤(i:Int):=by omega
   obtain rfl:i=j:=by omega
   go_wp2_with fail
   go_loopw [13] (fun k wr=>SwapA w B g N cap a b i xs k wr) (fun k _=>i - (intOf k).toNat)
   case atStart=>exact ⟨a,xs,rfl,by omega,by omega,Below.mono HE.out hB,HN.out,Seg.refl _ _ _,Rot.id2 xs,HW.out⟩
   case round=>
    clear HW HE HO
    obtain ⟨k,zs,rfl,hak,hki,hbel,hzl,hseg,hrot,hown⟩:=hrel
    have HW:=zH hown
    have HBL:=zH hbel
    have HY:=zH hzl
    have HSG:=zH hseg
    have HR:=zH hrot
    clear hown hbel hzl hseg hrot
    have k4:(i:Int)≤(b:Int):=by omega
    have k5:(0:Int)≤(k:Int):=by omega
    have k6:(m:Int)≤(i:Int):=by omega
    by_cases hend:i=k+1
    ·have HEQ:=zH hend
     have k7:(i:Int) - 1≤(k:Int):=by omega
     clear hend
     go_wp2_with fail
     go_end0
     refine ⟨rfl,HBL.out,zs,HY.out,⟨HSG.out,?_⟩,HW.out⟩
     have hr:=HR.out
     rw [←HEQ.out]at hr
     have hm:=HAM.out
     subst hm
     exact sym_first hr (by omega) (by omega) HOB.out HLO.out HHI.out
    have k7:(k:Int) < (i:Int) - 1:=by omega
    obtain ⟨p1,p2,p3,p4⟩:=HW.out.at HY.out (show k < N by omega)
    obtain ⟨q1,q2,q3,q4⟩:=HW.out.at HY.out (show k+1 < N by omega)
    generalize hgx:gt zs k=x at*
    generalize hgy:gt zs (k+1)=y at*
    have HX:=zH (And.intro hgx hgy)
    clear hgx hgy
    obtain ⟨x1,x2⟩:=x
    obtain ⟨y1,y2⟩:=y
    simp only at p1 p2 q1 q2
    have k8:(k:Int) < (N:Int):=by omega
    have k9:(k:Int)+1 < (N:Int):=by omega
    have j0:(N:Int)≤4000000000000:=by omega
    have j1:IntKind.i64.wrap ((k:Int)+1)=(k:Int)+1:=IntWalk.i64_in _ (by omega)
    have j2:¬(k+1)*2=k*2:=by omega
    have j3:¬k*2=(k+1)*2:=by omega
    have j4:¬(k+1)*2=k*2+1:=by omega
    have j5:¬k*2+1=(k+1)*2:=by omega
    have j6:¬(k+1)*2+1=k*2:=by omega
    have j7:¬k*2=(k+1)*2+1:=by omega
    have HR2:=zH (HR.out.up hak (by have:=HY.out;omega))
    have HEND:=zH hend
    clear hend
    go_wp2_with fail
    go_region
    go_wp2_with fail
    go_roundw
    case rel=>
     refine ⟨k+1,swapL zs k (k+1),by go_num,by omega,by have:=HEND.out;omega,((((HBL.out.drew).setCell hBg _).setCell hBg _).setCell hBg _).setCell hBg _,by rw [swapL_length];exact HY.out,HSG.out.trans (Seg.swap (by have:=HY.out;omega) ⟨by omega,by omega⟩ ⟨by omega,by omega⟩),HR2.out,?_⟩
     have h1:=OwnS.store (w:=wr.drew) HW.out HY.out k y1 y2
     have h2:=OwnS.store h1 (by simp [HY.out]) (k+1) x1 x2
     rw [swapL,HX.out.1,HX.out.2]
     exact h2
    case measure=>simp [intOf];omega
def SearchB (w:World) (a m b:Nat) (xs:List (Int×Int)) (vi vj:Value) (wr:World):Prop:=
 ∃(i j:Nat),vi= .int .i64 i∧vj= .int .i64 j∧a≤i∧i≤j∧j≤m∧Ext w wr∧(∀p,a≤p→p < i→leS (gt xs p) (gt xs m)=true)∧(∀p,j≤p→p < m→leS (gt xs p) (gt xs m)=false)
def SwapB (w:World) (B g N cap a m b i:Nat) (xs:List (Int×Int)) (vk:Value) (wr:World):Prop:=
 ∃(k:Nat) (zs:List (Int×Int)),vk= .int .i64 k∧i≤k∧k≤m∧Below B w wr∧zs.length=N∧Seg a b xs zs∧Rot k m (m+1) xs zs∧OwnS wr B (.slice (some ⟨g,0,none⟩) N cap) zs
theorem symB_any (B g N cap a m b:Nat) (xs:List (Int×Int)) (w:World) (hB:B≤w.heap.size) (hBg:B≤g) (hN:xs.length=N) (hN2:N≤4000000000000) (ham:a+1 < m) (hmb:b=m+1) (hb:b≤N)
  (hoA:Ordered a m xs) (ho:OwnS w B (.slice (some ⟨g,0,none⟩) N cap) xs):
  Calls Try.prog 94 #[.slice (some ⟨g,0,none⟩) N cap,.int .i64 a,.int .i64 m,.int .i64 b,.func (.func 89) #[] #[]] w
   (InPlace w B g N cap (fun ys=>Seg a b xs ys∧Ordered a b ys)):=by
 have HO:=zH ho
 have HN:=zH hN
 have HMB:=zH hmb
 have HOA:=zH hoA
 clear ho hN hoA
 have i1:((m:Int) - (a:Int)==1)=false:=by simp;omega
 have i2:(b:Int) - (m:Int)=1:=by omega
 have i3:(b:Int)≤4000000000000:=by omega
 have i4:(0:Int)≤(a:Int):=by omega
 have i5:(a:Int) < (m:Int):=by omega
 have i6:(b:Int)≤(N:Int):=by omega
 have i7:(m:Int) < (b:Int):=by omega
 have i8:(m:Int) < (N:Int):=by omega
 clear hmb
 go_enter Try.func94,Try.ntmps94
 go_wp2_with fail
 go_loopw [14,15] (fun i j wr=>SearchB w a m b xs i j wr) (fun i j _=>(intOf j).toNat - (intOf i).toNat)
 case atStart=>exact ⟨a,m,rfl,rfl,by omega,by omega,by omega,Ext.refl _,fun p h1 h2=>by omega,fun p h1 h2=>by omega⟩
 case round=>
  obtain ⟨i,j,rfl,rfl,hmi,hij,hjb,hext,hlo,hhi⟩:=hrel
  have HLO:=zH hlo
  have HHI:=zH hhi
  have HW:=zH (HO.out.ext hext)
  have HE:=zH hext
  clear hlo hhi hext
  by_cases hlt:i < j
  ·obtain ⟨h,hh⟩:∃h,h=(i+j)/2:=⟨_,rfl⟩
   have k1:(i:Int)≤(h:Int):=by omega
   have k2:(h:Int) < (j:Int):=by omega
   have k3:(i:Int) < (j:Int):=by omega
   have k4:(a:Int)≤(i:Int):=by omega
   have k5:(j:Int)≤(m:Int):=by omega
   have hm:((i:Int)+(j:Int))/2=(h:Int):=by omega
   have HH:=zH hh
   clear hh
   go_wp2_with fail
   clear hm
   obtain ⟨W,rfl⟩:∃W:World,W=wr:=⟨_,rfl⟩
   have hs0:Ext W W:=Ext.refl W
   obtain ⟨p1,p2, -, -⟩:=HW.out.at HN.out (show m < N by omega)
   obtain ⟨q1,q2, -, -⟩:=HW.out.at HN.out (show h < N by omega)
   generalize hgx:gt xs m=x at*
   generalize hgy:gt xs h=y at*
   have HX:=zH (And.intro hgx hgy)
   obtain ⟨x1,x2⟩:=x
   obtain ⟨y1,y2⟩:=y
   have P1:=zH p1
   have P2:=zH p2
   have Q1:=zH q1
   have Q2:=zH q2
   clear hgx hgy p1 p2 q1 q2
   have c1:∀w',Ext W w'→w'.cell? ⟨g,m*2,none⟩=some (.int .i64 x1):=fun w' h=>h.cell P1.out
   have c2:∀w',Ext W w'→w'.cell? ⟨g,m*2+1,none⟩=some (.int .i64 x2):=fun w' h=>h.cell P2.out
   have c3:∀w',Ext W w'→w'.cell? ⟨g,h*2,none⟩=some (.int .i64 y1):=fun w' h=>h.cell Q1.out
   have c4:∀w',Ext W w'→w'.cell? ⟨g,h*2+1,none⟩=some (.int .i64 y2):=fun w' h=>h.cell Q2.out
   have k6:(0:Int)≤(h:Int):=by omega
   have k7:(h:Int) < (N:Int):=by omega
   have k8:(0:Int)≤(m:Int):=by omega
   cases hle:leS (y1,y2) (x1,x2)
   ·have hz:byZ (x1,x2) (y1,y2) < 0:=byZ_neg.2 hle
    go_region_held3 (fun w1=>Ext W w1) (first | (with_reducible assumption) | (exact Ext.drew (by with_reducible assumption)) | (with_reducible exact Ext.drew (Ext.alloc (by with_reducible assumption) _)) | (with_reducible exact Ext.alloc (by with_reducible assumption) _) | (exact Ext.trans (by with_reducible assumption) (by with_reducible assumption))) (first | (go_at_call 89;refine (by_any (x1,x2) (y1,y2) _).mono ?_;rintro e w1 ⟨rfl,hx⟩))
    go_wp2_with fail
    go_roundw
    case rel=>exact ⟨i,h,rfl,rfl,by omega,by omega,by omega,HE.out.trans (by with_reducible assumption),(by rw [HX.out.1];exact HLO.out),fun p h1 h2=>
     ltS_trans2 (y:=gt xs h) (by rw [HX.out.1,HX.out.2];exact hle) (HOA.out.le (by omega) h1 h2)⟩
    case measure=>simp [intOf];omega
   ·have hz:¬byZ (x1,x2) (y1,y2) < 0:=fun h=>by rw [byZ_neg.1 h]at hle;cases hle
    have hz1:0≤byZ (x1,x2) (y1,y2):=by omega
    have hz2:decide (byZ (x1,x2) (y1,y2) < 0)=false:=by simp;omega
    clear hz
    go_region_held3 (fun w1=>Ext W w1) (first | (with_reducible assumption) | (exact Ext.drew (by with_reducible assumption)) | (with_reducible exact Ext.drew (Ext.alloc (by with_reducible assumption) _)) | (with_reducible exact Ext.alloc (by with_reducible assumption) _) | (exact Ext.trans (by with_reducible assumption) (by with_reducible assumption))) (first | (go_at_call 89;refine (by_any (x1,x2) (y1,y2) _).mono ?_;rintro e w1 ⟨rfl,hx⟩))
    go_wp2_with fail
    go_roundw
    case rel=>exact ⟨h+1,j,by go_num,rfl,by omega,by omega,by omega,HE.out.trans (by with_reducible assumption),fun p h1 h2=>
     leS_trans _ _ _ (HOA.out.le h1 (by omega:p≤h) (by omega)) (show leS (gt xs h) (gt xs m)=true by rw [HX.out.1,HX.out.2];exact hle),by rw [HX.out.1];exact HHI.out⟩
    case measure=>simp [intOf];omega
  ·have k3:(j:Int)≤(i:Int):=by omega
   obtain rfl:i=j:=by omega
   go_wp2_with fail
   go_loopw [17] (fun k wr=>SwapB w B g N cap a m b i xs k wr) (fun k _=>(intOf k).toNat)
   case atStart=>exact ⟨m,xs,rfl,by omega,by omega,Below.mono HE.out hB,HN.out,Seg.refl _ _ _,Rot.id1 xs,HW.out⟩
   case round=>
    clear HW HE HO
    obtain ⟨k,zs,rfl,hki,hkm,hbel,hzl,hseg,hrot,hown⟩:=hrel
    have HW:=zH hown
    have HBL:=zH hbel
    have HY:=zH hzl
    have HSG:=zH hseg
    have HR:=zH hrot
    clear hown hbel hzl hseg hrot
    have k4:(a:Int)≤(i:Int):=by omega
    have k5:(0:Int)≤(i:Int):=by omega
    have k6:(k:Int)≤(m:Int):=by omega
    by_cases hend:k=i
    ·subst hend
     go_wp2_with fail
     go_end0
     refine ⟨rfl,HBL.out,zs,HY.out,⟨HSG.out,?_⟩,HW.out⟩
     have hm:=HMB.out
     subst hm
     exact sym_last HR.out (by omega) (by omega) HOA.out HLO.out HHI.out
    obtain ⟨n,rfl⟩:∃n,k=n+1:=⟨k - 1,by omega⟩
    have hcast:((n+1:Nat):Int)=(n:Int)+1:=by omega
    rw [hcast]
    rw [hcast]at k6
    have k7:(i:Int) < (n:Int)+1:=by omega
    clear hcast
    obtain ⟨p1,p2,p3,p4⟩:=HW.out.at HY.out (show n+1 < N by omega)
    obtain ⟨q1,q2,q3,q4⟩:=HW.out.at HY.out (show n < N by omega)
    generalize hgx:gt zs (n+1)=x at*
    generalize hgy:gt zs n=y at*
    have HX:=zH (And.intro hgx hgy)
    clear hgx hgy
    obtain ⟨x1,x2⟩:=x
    obtain ⟨y1,y2⟩:=y
    simp only at p1 p2 q1 q2
    have k8:(n:Int) < (N:Int):=by omega
    have k9:(n:Int)+1 < (N:Int):=by omega
    have j0:(N:Int)≤4000000000000:=by omega
    have j8:(0:Int)≤(n:Int):=by omega
    have j1:IntKind.i64.wrap ((n:Int)+1 - 1)=(n:Int):=by rw [show (n:Int)+1 - 1=n by omega];exact IntWalk.i64_in _ (by omega)
    have j9:IntKind.i64.wrap (n:Int)=(n:Int):=IntWalk.i64_in _ (by omega)
    have j2:¬(n+1)*2=n*2:=by omega
    have j3:¬n*2=(n+1)*2:=by omega
    have j4:¬(n+1)*2=n*2+1:=by omega
    have j5:¬n*2+1=(n+1)*2:=by omega
    have j6:¬(n+1)*2+1=n*2:=by omega
    have j7:¬n*2=(n+1)*2+1:=by omega
    have HR2:=zH (HR.out.down (by omega) (by have:=HY.out;omega))
    have HEND:=zH hend
    clear hend
    go_wp2_with fail
    go_region
    go_wp2_with fail
    go_roundw
    case rel=>
     refine ⟨n,swapL zs (n+1) n,by go_num,by have:=HEND.out;omega,by omega,((((HBL.out.drew).setCell hBg _).setCell hBg _).setCell hBg _).setCell hBg _,by rw [swapL_length];exact HY.out,HSG.out.trans (Seg.swap (by have:=HY.out;omega) ⟨by omega,by omega⟩ ⟨by omega,by omega⟩),HR2.out,?_⟩
     have h1:=OwnS.store (w:=wr.drew) HW.out HY.out (n+1) y1 y2
     have h2:=OwnS.store h1 (by simp [HY.out]) n x1 x2
     rw [swapL,HX.out.1,HX.out.2]
     exact h2
    case measure=>simp [intOf]
def SearchC (w:World) (s0 r0 p:Nat) (xs:List (Int×Int)) (vi vj:Value) (wr:World):Prop:=
 ∃(i j:Nat),vi= .int .i64 i∧vj= .int .i64 j∧s0≤i∧i≤j∧j≤r0∧Ext w wr∧(∀c,s0≤c→c < i→leS (gt xs c) (gt xs (p - c))=true)∧(∀c,j≤c→c < r0→leS (gt xs c) (gt xs (p - c))=false)
theorem Rot.same {s m e:Nat} (h:s=m∨e=m) (xs:List (Int×Int)):Rot s m e xs xs:=by
 rcases h with h | h
 ·subst h;exact Rot.id1 xs
 ·subst h;exact Rot.id2 xs
def SymLess (B g N cap K:Nat):Prop:=∀(a m b:Nat) (xs:List (Int×Int)) (w:World),b - a < K→B≤w.heap.size→xs.length=N→a < m→m < b→b≤N→Ordered a m xs→Ordered m b xs→
  OwnS w B (.slice (some ⟨g,0,none⟩) N cap) xs→
  Calls Try.prog 94 #[.slice (some ⟨g,0,none⟩) N cap,.int .i64 a,.int .i64 m,.int .i64 b,.func (.func 89) #[] #[]] w
   (InPlace w B g N cap (fun ys=>Seg a b xs ys∧Ordered a b ys))
theorem symC1_any (B g N cap a m b mid:Nat) (xs:List (Int×Int)) (w:World) (hB:B≤w.heap.size) (hBg:B≤g) (hN:xs.length=N) (hN2:N≤4000000000000) (ham:a+1 < m) (hmb:m+1 < b) (hb:b≤N)
  (hmid:mid=(a+b)/2) (hc:mid < m) (hoA:Ordered a m xs) (hoB:Ordered m b xs) (IH:SymLess B g N cap (b - a)) (ho:OwnS w B (.slice (some ⟨g,0,none⟩) N cap) xs):
  Calls Try.prog 94 #[.slice (some ⟨g,0,none⟩) N cap,.int .i64 a,.int .i64 m,.int .i64 b,.func (.func 89) #[] #[]] w
   (InPlace w B g N cap (fun ys=>Seg a b xs ys∧Ordered a b ys)):=by
 have HO:=zH ho
 have HN:=zH hN
 have HI:=zH IH
 have HOA:=zH hoA
 have HOB:=zH hoB
 clear ho hN hoB hoA IH
 obtain ⟨n,hn⟩:∃n,n=mid+m:=⟨_,rfl⟩
 obtain ⟨p,hp⟩:∃p,n=p+1:=⟨n - 1,by omega⟩
 obtain ⟨s0,hs⟩:∃s0,s0=n - b:=⟨_,rfl⟩
 obtain ⟨r0,hr⟩:∃r0,r0=mid:=⟨_,rfl⟩
 have b0:a≤s0:=by omega
 have b1:r0≤m:=by omega
 have b2:m+r0≤n:=by omega
 have b3:n≤b+s0:=by omega
 have b4:s0≤r0:=by omega
 have i1:((m:Int) - (a:Int)==1)=false:=by simp;omega
 have i2:((b:Int) - (m:Int)==1)=false:=by simp;omega
 have i3:(b:Int)≤4000000000000:=by omega
 have i4:(0:Int)≤(a:Int):=by omega
 have i5:(a:Int) < (m:Int):=by omega
 have i6:(b:Int)≤(N:Int):=by omega
 have i7:(m:Int) < (b:Int):=by omega
 have i8:((a:Int)+(b:Int))/2=(mid:Int):=by omega
 have i9:(mid:Int)+(m:Int)=(n:Int):=by omega
 have m1:(a:Int) < (mid:Int):=by omega
 have m2:(mid:Int) < (b:Int):=by omega
 have l2:(n:Int) - 1=(p:Int):=by omega
 have l0:(mid:Int) < (m:Int):=by omega
 have l1:(n:Int) - (b:Int)=(s0:Int):=by omega
 have hSZ:=zH (And.intro hs hr)
 clear hs hr hn hp hmid
 have hrm:r0=mid:=hSZ.out.2
 subst hrm
 go_enter Try.func94,Try.ntmps94
 go_wp2_with fail
 go_loopw [20,21] (fun i j wr=>SearchC w s0 r0 p xs i j wr) (fun i j _=>(intOf j).toNat - (intOf i).toNat)
 case atStart=>exact ⟨s0,r0,rfl,rfl,by omega,by omega,by omega,Ext.refl _,fun p h1 h2=>by omega,fun p h1 h2=>by omega⟩
 case round=>
  obtain ⟨i,j,rfl,rfl,hmi,hij,hjb,hext,hlo,hhi⟩:=hrel
  have HLO:=zH hlo
  have HHI:=zH hhi
  have HW:=zH (HO.out.ext hext)
  have HE:=zH hext
  clear hlo hhi hext
  by_cases hlt:i < j
  ·obtain ⟨h,hh⟩:∃h,h=(i+j)/2:=⟨_,rfl⟩
   obtain ⟨q,hq⟩:∃q,p=q+h:=⟨p - h,by omega⟩
   have k1:(i:Int)≤(h:Int):=by omega
   have k2:(h:Int) < (j:Int):=by omega
   have k3:(i:Int) < (j:Int):=by omega
   have k4:(s0:Int)≤(i:Int):=by omega
   have k5:(j:Int)≤(r0:Int):=by omega
   have hm:((i:Int)+(j:Int))/2=(h:Int):=by omega
   have hpq:(p:Int) - (h:Int)=(q:Int):=by omega
   have hqN:q < N:=by omega
   have hhN:h < N:=by omega
   have HH:=zH hh
   have HQ:=zH hq
   clear hh hq
   go_wp2_with fail
   clear hm
   obtain ⟨W,rfl⟩:∃W:World,W=wr:=⟨_,rfl⟩
   have hs0:Ext W W:=Ext.refl W
   obtain ⟨p1,p2, -, -⟩:=HW.out.at HN.out hqN
   obtain ⟨q1,q2, -, -⟩:=HW.out.at HN.out hhN
   obtain ⟨x,hgx⟩:∃x,gt xs q=x:=⟨_,rfl⟩
   obtain ⟨y,hgy⟩:∃y,gt xs h=y:=⟨_,rfl⟩
   rw [hgx]at p1 p2
   rw [hgy]at q1 q2
   have HX:=zH (And.intro hgx hgy)
   clear hgx hgy
   obtain ⟨x1,x2⟩:=x
   obtain ⟨y1,y2⟩:=y
   simp only at p1 p2 q1 q2
   have P1:=zH p1
   have P2:=zH p2
   have Q1:=zH q1
   have Q2:=zH q2
   clear p1 p2 q1 q2
   have c1:∀w',Ext W w'→w'.cell? ⟨g,q*2,none⟩=some (.int .i64 x1):=fun w' h=>h.cell P1.out
   have c2:∀w',Ext W w'→w'.cell? ⟨g,q*2+1,none⟩=some (.int .i64 x2):=fun w' h=>h.cell P2.out
   have c3:∀w',Ext W w'→w'.cell? ⟨g,h*2,none⟩=some (.int .i64 y1):=fun w' h=>h.cell Q1.out
   have c4:∀w',Ext W w'→w'.cell? ⟨g,h*2+1,none⟩=some (.int .i64 y2):=fun w' h=>h.cell Q2.out
   have k6:(0:Int)≤(h:Int):=by omega
   have k7:(h:Int) < (N:Int):=by omega
   have k8:(0:Int)≤(q:Int):=by omega
   have k9:(q:Int) < (N:Int):=by omega
   have j1:IntKind.i64.wrap (q:Int)=(q:Int):=IntWalk.i64_in _ (by omega)
   cases hle:leS (y1,y2) (x1,x2)
   ·have hz:byZ (x1,x2) (y1,y2) < 0:=byZ_neg.2 hle
    go_region_held3 (fun w1=>Ext W w1) (first | (with_reducible assumption) | (exact Ext.drew (by with_reducible assumption)) | (with_reducible exact Ext.drew (Ext.alloc (by with_reducible assumption) _)) | (with_reducible exact Ext.alloc (by with_reducible assumption) _) | (exact Ext.trans (by with_reducible assumption) (by with_reducible assumption))) (first | (go_at_call 89;refine (by_any (x1,x2) (y1,y2) _).mono ?_;rintro e w1 ⟨rfl,hx⟩))
    go_wp2_with fail
    go_roundw
    case rel=>
     have e1:=HQ.out
     exact ⟨i,h,rfl,rfl,by omega,by omega,by omega,HE.out.trans (by with_reducible assumption),HLO.out,fun c h1 h2=>
      ltS_trans2 (y:=gt xs h) (ltS_trans (y:=gt xs q) (HOB.out.le (by omega:m≤p - c) (by omega:p - c≤q) (by omega)) (by rw [HX.out.1,HX.out.2];exact hle)) (HOA.out.le (by omega) h1 (by omega))⟩
    case measure=>simp [intOf];omega
   ·have hz1 : 0 ≤ byZ (x1, x2) (y1, y2) := by
     by_cases hz:byZ (x1,x2) (y1,y2) < 0
     ·rw [byZ_neg.1 hz]at hle;cases hle
     ·omega
    have hz2:decide (byZ (x1,x2) (y1,y2) < 0)=false:=by simp;omega
    go_region_held3 (fun w1=>Ext W w1) (first | (with_reducible assumption) | (exact Ext.drew (by with_reducible assumption)) | (with_reducible exact Ext.drew (Ext.alloc (by with_reducible assumption) _)) | (with_reducible exact Ext.alloc (by with_reducible assumption) _) | (exact Ext.trans (by with_reducible assumption) (by with_reducible assumption))) (first | (go_at_call 89;refine (by_any (x1,x2) (y1,y2) _).mono ?_;rintro e w1 ⟨rfl,hx⟩))
    go_wp2_with fail
    go_roundw
    case rel=>
     have e1:=HQ.out
     exact ⟨h+1,j,by go_num,rfl,by omega,by omega,by omega,HE.out.trans (by with_reducible assumption),fun c h1 h2=>
      leS_trans _ _ _ (HOA.out.le (by omega:a≤c) (by omega:c≤h) (by omega)) (leS_trans _ _ _ (show leS (gt xs h) (gt xs q)=true by rw [HX.out.1,HX.out.2];exact hle) (HOB.out.le (by omega) (by omega) (by omega))),HHI.out⟩
    case measure=>simp [intOf];omega
  ·have k3:(j:Int)≤(i:Int):=by omega
   obtain rfl:i=j:=by omega
   obtain ⟨s,hsi⟩:∃s,s=i:=⟨_,rfl⟩
   subst hsi
   obtain ⟨e,he⟩:∃e,n=e+s:=⟨n - s,by omega⟩
   have k4:(n:Int) - (s:Int)=(e:Int):=by omega
   have HSP:=zH (fun (zs:List (Int×Int)) (h:Rot s m e xs zs)=>sym_split (d:=r0) h (by omega:a≤s) (by omega) (by omega) (by omega:e≤b) (by omega) HOA.out HOB.out
    (fun h1 h2=>by have h:=HLO.out (s - 1) (by have:=hSZ.out.1;omega) (by omega);rwa [show p - (s - 1)=e by omega]at h)
    (fun h1 h2=>by have h:=HHI.out s (by omega) (by omega);rw [show p - s=e - 1 by omega]at h;exact leS_of_lt h))
   clear HO HLO HHI hlt
   by_cases hX:s < r0
   ·by_cases hY:a < s
    ·by_cases hZ:e < b
     ·have f1:(s:Int) < (m:Int):=by omega
      have f2:(m:Int) < (e:Int):=by omega
      have f3:(a:Int) < (s:Int):=by omega
      have f4:(s:Int) < (r0:Int):=by omega
      have f5:(r0:Int) < (e:Int):=by omega
      have f6:(e:Int) < (b:Int):=by omega
      go_wp2_with fail
      refine (rotate_any B g N cap s m e xs _ hBg HN.out hN2 (by omega) (by omega) (by omega) HW.out).mono ?_
      rintro e1 w1 ⟨rfl,hb1,zs,hyl,⟨hsg,hrt⟩,ho1⟩
      have SP:=zH (HSP.out zs hrt)
      have SG:=zH (hsg.mono (by omega:a≤s) (by omega:e≤b))
      have HL:=zH hyl
      have HO1:=zH ho1
      have BE:=zH ((Below.mono HE.out hB).trans hb1)
      clear hb1 hyl hsg hrt ho1
      have hsz:B≤w1.heap.size:=by have:=BE.out.size;omega
      go_wp2_with fail
      refine (HI.out a s r0 _ _ (by omega) hsz HL.out (by omega) (by omega) (by omega) SP.out.o1 SP.out.o2 HO1.out).mono ?_
      rintro e1 w2 ⟨rfl,hb1,ls,hyl,⟨hsg,hod⟩,ho1⟩
      have LS:=zH hsg
      have LO:=zH hod
      have HL2:=zH hyl
      have HO2:=zH ho1
      have BE2:=zH (BE.out.trans hb1)
      clear hb1 hyl hsg hod ho1 hsz
      have hsz:B≤w2.heap.size:=by have:=BE2.out.size;omega
      go_wp2_with fail
      refine (HI.out r0 e b _ _ (by omega) hsz HL2.out (by omega) (by omega) (by omega) (SP.out.o3.congr fun i h1 h2=>LS.out.out i (by omega)) (SP.out.o4.congr fun i h1 h2=>LS.out.out i (by omega)) HO2.out).mono ?_
      rintro e1 w3 ⟨rfl,hb1,rs,hyl,⟨hsg,hod⟩,ho1⟩
      have RS:=zH hsg
      have RO:=zH hod
      have HL3:=zH hyl
      have HO3:=zH ho1
      have BE3:=zH (BE2.out.trans hb1)
      clear hb1 hyl hsg hod ho1 hsz
      go_wp2_with fail
      go_end0
      have hd:=SP.out.done (by omega) (by omega) (by omega) (by omega) LS.out LO.out RS.out RO.out
      exact ⟨rfl,BE3.out,_,HL3.out,⟨SG.out.trans hd.1,hd.2⟩,HO3.out⟩
     ·have f1:(s:Int) < (m:Int):=by omega
      have f2:(m:Int) < (e:Int):=by omega
      have f3:(a:Int) < (s:Int):=by omega
      have f4:(s:Int) < (r0:Int):=by omega
      have f5:(r0:Int) < (e:Int):=by omega
      have f6:decide (e < b)=false:=by simp;omega
      have g6:(b:Int)≤(e:Int):=by omega
      go_wp2_with fail
      refine (rotate_any B g N cap s m e xs _ hBg HN.out hN2 (by omega) (by omega) (by omega) HW.out).mono ?_
      rintro e1 w1 ⟨rfl,hb1,zs,hyl,⟨hsg,hrt⟩,ho1⟩
      have SP:=zH (HSP.out zs hrt)
      have SG:=zH (hsg.mono (by omega:a≤s) (by omega:e≤b))
      have HL:=zH hyl
      have HO1:=zH ho1
      have BE:=zH ((Below.mono HE.out hB).trans hb1)
      clear hb1 hyl hsg hrt ho1
      have hsz:B≤w1.heap.size:=by have:=BE.out.size;omega
      go_wp2_with fail
      refine (HI.out a s r0 _ _ (by omega) hsz HL.out (by omega) (by omega) (by omega) SP.out.o1 SP.out.o2 HO1.out).mono ?_
      rintro e1 w2 ⟨rfl,hb1,ls,hyl,⟨hsg,hod⟩,ho1⟩
      have LS:=zH hsg
      have LO:=zH hod
      have HL2:=zH hyl
      have HO2:=zH ho1
      have BE2:=zH (BE.out.trans hb1)
      clear hb1 hyl hsg hod ho1 hsz
      have hsz:B≤w2.heap.size:=by have:=BE2.out.size;omega
      go_wp2_with fail
      have RS:=zH (Seg.refl r0 b ls)
      have RO:=zH (show Ordered r0 b ls by first | exact (SP.out.o4.sub (by omega) (by omega)).congr fun i h1 h2=>LS.out.out i (by omega) | exact (SP.out.o3.sub (by omega) (by omega)).congr fun i h1 h2=>LS.out.out i (by omega))
      have HL3:=HL2
      have HO3:=HO2
      have BE3:=BE2
      go_end0
      have hd:=SP.out.done (by omega) (by omega) (by omega) (by omega) LS.out LO.out RS.out RO.out
      exact ⟨rfl,BE3.out,_,HL3.out,⟨SG.out.trans hd.1,hd.2⟩,HO3.out⟩
    ·by_cases hZ:e < b
     ·have f1:(s:Int) < (m:Int):=by omega
      have f2:(m:Int) < (e:Int):=by omega
      have f3:decide (a < s)=false:=by simp;omega
      have g3:(s:Int)≤(a:Int):=by omega
      have f4:(s:Int) < (r0:Int):=by omega
      have f5:(r0:Int) < (e:Int):=by omega
      have f6:(e:Int) < (b:Int):=by omega
      go_wp2_with fail
      refine (rotate_any B g N cap s m e xs _ hBg HN.out hN2 (by omega) (by omega) (by omega) HW.out).mono ?_
      rintro e1 w1 ⟨rfl,hb1,zs,hyl,⟨hsg,hrt⟩,ho1⟩
      have SP:=zH (HSP.out zs hrt)
      have SG:=zH (hsg.mono (by omega:a≤s) (by omega:e≤b))
      have HL:=zH hyl
      have HO1:=zH ho1
      have BE:=zH ((Below.mono HE.out hB).trans hb1)
      clear hb1 hyl hsg hrt ho1
      have hsz:B≤w1.heap.size:=by have:=BE.out.size;omega
      go_wp2_with fail
      have LS:=zH (Seg.refl a r0 zs)
      have LO:=zH (show Ordered a r0 _ by first | exact SP.out.o2.sub (by omega) (by omega) | exact SP.out.o1.sub (by omega) (by omega))
      have HL2:=HL
      have HO2:=HO1
      have BE2:=BE
      refine (HI.out r0 e b _ _ (by omega) hsz HL2.out (by omega) (by omega) (by omega) (SP.out.o3.congr fun i h1 h2=>LS.out.out i (by omega)) (SP.out.o4.congr fun i h1 h2=>LS.out.out i (by omega)) HO2.out).mono ?_
      rintro e1 w3 ⟨rfl,hb1,rs,hyl,⟨hsg,hod⟩,ho1⟩
      have RS:=zH hsg
      have RO:=zH hod
      have HL3:=zH hyl
      have HO3:=zH ho1
      have BE3:=zH (BE2.out.trans hb1)
      clear hb1 hyl hsg hod ho1 hsz
      go_wp2_with fail
      go_end0
      have hd:=SP.out.done (by omega) (by omega) (by omega) (by omega) LS.out LO.out RS.out RO.out
      exact ⟨rfl,BE3.out,_,HL3.out,⟨SG.out.trans hd.1,hd.2⟩,HO3.out⟩
     ·have f1:(s:Int) < (m:Int):=by omega
      have f2:(m:Int) < (e:Int):=by omega
      have f3:decide (a < s)=false:=by simp;omega
      have g3:(s:Int)≤(a:Int):=by omega
      have f4:(s:Int) < (r0:Int):=by omega
      have f5:(r0:Int) < (e:Int):=by omega
      have f6:decide (e < b)=false:=by simp;omega
      have g6:(b:Int)≤(e:Int):=by omega
      go_wp2_with fail
      refine (rotate_any B g N cap s m e xs _ hBg HN.out hN2 (by omega) (by omega) (by omega) HW.out).mono ?_
      rintro e1 w1 ⟨rfl,hb1,zs,hyl,⟨hsg,hrt⟩,ho1⟩
      have SP:=zH (HSP.out zs hrt)
      have SG:=zH (hsg.mono (by omega:a≤s) (by omega:e≤b))
      have HL:=zH hyl
      have HO1:=zH ho1
      have BE:=zH ((Below.mono HE.out hB).trans hb1)
      clear hb1 hyl hsg hrt ho1
      have hsz:B≤w1.heap.size:=by have:=BE.out.size;omega
      go_wp2_with fail
      have LS:=zH (Seg.refl a r0 zs)
      have LO:=zH (show Ordered a r0 _ by first | exact SP.out.o2.sub (by omega) (by omega) | exact SP.out.o1.sub (by omega) (by omega))
      have HL2:=HL
      have HO2:=HO1
      have BE2:=BE
      have RS:=zH (Seg.refl r0 b zs)
      have RO:=zH (show Ordered r0 b zs by first | exact (SP.out.o4.sub (by omega) (by omega)).congr fun i h1 h2=>LS.out.out i (by omega) | exact (SP.out.o3.sub (by omega) (by omega)).congr fun i h1 h2=>LS.out.out i (by omega))
      have HL3:=HL2
      have HO3:=HO2
      have BE3:=BE2
      go_end0
      have hd:=SP.out.done (by omega) (by omega) (by omega) (by omega) LS.out LO.out RS.out RO.out
      exact ⟨rfl,BE3.out,_,HL3.out,⟨SG.out.trans hd.1,hd.2⟩,HO3.out⟩
   ·by_cases hZ:e < b
    ·have f1:(s:Int) < (m:Int):=by omega
     have f2:decide (m < e)=false:=by simp;omega
     have g2:(e:Int)≤(m:Int):=by omega
     have f3:(a:Int) < (s:Int):=by omega
     have f4:decide (s < r0)=false:=by simp;omega
     have g4:(r0:Int)≤(s:Int):=by omega
     have f5:(r0:Int) < (e:Int):=by omega
     have f6:(e:Int) < (b:Int):=by omega
     go_wp2_with fail
     have SP:=zH (HSP.out xs (Rot.same (by omega) xs))
     have SG:=zH (Seg.refl a b xs)
     have HL:=HN
     have HO1:=HW
     have BE:=zH (Below.mono HE.out hB)
     have hsz:B≤wr.heap.size:=by have:=BE.out.size;omega
     have LS:=zH (Seg.refl a r0 xs)
     have LO:=zH (show Ordered a r0 _ by first | exact SP.out.o2.sub (by omega) (by omega) | exact SP.out.o1.sub (by omega) (by omega))
     have HL2:=HL
     have HO2:=HO1
     have BE2:=BE
     refine (HI.out r0 e b _ _ (by omega) hsz HL2.out (by omega) (by omega) (by omega) (SP.out.o3.congr fun i h1 h2=>LS.out.out i (by omega)) (SP.out.o4.congr fun i h1 h2=>LS.out.out i (by omega)) HO2.out).mono ?_
     rintro e1 w3 ⟨rfl,hb1,rs,hyl,⟨hsg,hod⟩,ho1⟩
     have RS:=zH hsg
     have RO:=zH hod
     have HL3:=zH hyl
     have HO3:=zH ho1
     have BE3:=zH (BE2.out.trans hb1)
     clear hb1 hyl hsg hod ho1 hsz
     go_wp2_with fail
     go_end0
     have hd:=SP.out.done (by omega) (by omega) (by omega) (by omega) LS.out LO.out RS.out RO.out
     exact ⟨rfl,BE3.out,_,HL3.out,⟨SG.out.trans hd.1,hd.2⟩,HO3.out⟩
    ·have f1:(s:Int) < (m:Int):=by omega
     have f2:decide (m < e)=false:=by simp;omega
     have g2:(e:Int)≤(m:Int):=by omega
     have f3:(a:Int) < (s:Int):=by omega
     have f4:decide (s < r0)=false:=by simp;omega
     have g4:(r0:Int)≤(s:Int):=by omega
     have f5:(r0:Int) < (e:Int):=by omega
     have f6:decide (e < b)=false:=by simp;omega
     have g6:(b:Int)≤(e:Int):=by omega
     go_wp2_with fail
     have SP:=zH (HSP.out xs (Rot.same (by omega) xs))
     have SG:=zH (Seg.refl a b xs)
     have HL:=HN
     have HO1:=HW
     have BE:=zH (Below.mono HE.out hB)
     have hsz:B≤wr.heap.size:=by have:=BE.out.size;omega
     have LS:=zH (Seg.refl a r0 xs)
     have LO:=zH (show Ordered a r0 _ by first | exact SP.out.o2.sub (by omega) (by omega) | exact SP.out.o1.sub (by omega) (by omega))
     have HL2:=HL
     have HO2:=HO1
     have BE2:=BE
     have RS:=zH (Seg.refl r0 b xs)
     have RO:=zH (show Ordered r0 b xs by first | exact (SP.out.o4.sub (by omega) (by omega)).congr fun i h1 h2=>LS.out.out i (by omega) | exact (SP.out.o3.sub (by omega) (by omega)).congr fun i h1 h2=>LS.out.out i (by omega))
     have HL3:=HL2
     have HO3:=HO2
     have BE3:=BE2
     go_end0
     have hd:=SP.out.done (by omega) (by omega) (by omega) (by omega) LS.out LO.out RS.out RO.out
     exact ⟨rfl,BE3.out,_,HL3.out,⟨SG.out.trans hd.1,hd.2⟩,HO3.out⟩
theorem symC2_any (B g N cap a m b mid:Nat) (xs:List (Int×Int)) (w:World) (hB:B≤w.heap.size) (hBg:B≤g) (hN:xs.length=N) (hN2:N≤4000000000000) (ham:a+1 < m) (hmb:m+1 < b) (hb:b≤N)
  (hmid:mid=(a+b)/2) (hc:m≤mid) (hoA:Ordered a m xs) (hoB:Ordered m b xs) (IH:SymLess B g N cap (b - a)) (ho:OwnS w B (.slice (some ⟨g,0,none⟩) N cap) xs):
  Calls Try.prog 94 #[.slice (some ⟨g,0,none⟩) N cap,.int .i64 a,.int .i64 m,.int .i64 b,.func (.func 89) #[] #[]] w
   (InPlace w B g N cap (fun ys=>Seg a b xs ys∧Ordered a b ys)):=by
 have HO:=zH ho
 have HN:=zH hN
 have HI:=zH IH
 have HOA:=zH hoA
 have HOB:=zH hoB
 clear ho hN hoB hoA IH
 obtain ⟨n,hn⟩:∃n,n=mid+m:=⟨_,rfl⟩
 obtain ⟨p,hp⟩:∃p,n=p+1:=⟨n - 1,by omega⟩
 obtain ⟨s0,hs⟩:∃s0,s0=a:=⟨_,rfl⟩
 obtain ⟨r0,hr⟩:∃r0,r0=m:=⟨_,rfl⟩
 have b0:a≤s0:=by omega
 have b1:r0≤m:=by omega
 have b2:m+r0≤n:=by omega
 have b3:n≤b+s0:=by omega
 have b4:s0≤r0:=by omega
 have i1:((m:Int) - (a:Int)==1)=false:=by simp;omega
 have i2:((b:Int) - (m:Int)==1)=false:=by simp;omega
 have i3:(b:Int)≤4000000000000:=by omega
 have i4:(0:Int)≤(a:Int):=by omega
 have i5:(a:Int) < (m:Int):=by omega
 have i6:(b:Int)≤(N:Int):=by omega
 have i7:(m:Int) < (b:Int):=by omega
 have i8:((a:Int)+(b:Int))/2=(mid:Int):=by omega
 have i9:(mid:Int)+(m:Int)=(n:Int):=by omega
 have m1:(a:Int) < (mid:Int):=by omega
 have m2:(mid:Int) < (b:Int):=by omega
 have l2:(n:Int) - 1=(p:Int):=by omega
 have l0:(m:Int)≤(mid:Int):=by omega
 have l1:decide (mid < m)=false:=by simp;omega
 have hSZ:=zH (And.intro hs hr)
 clear hs hr hn hp hmid
 have hsa:s0=a:=hSZ.out.1
 have hrm:r0=m:=hSZ.out.2
 subst hsa hrm
 go_enter Try.func94,Try.ntmps94
 go_wp2_with fail
 go_loopw [20,21] (fun i j wr=>SearchC w s0 r0 p xs i j wr) (fun i j _=>(intOf j).toNat - (intOf i).toNat)
 case atStart=>exact ⟨s0,r0,rfl,rfl,by omega,by omega,by omega,Ext.refl _,fun p h1 h2=>by omega,fun p h1 h2=>by omega⟩
 case round=>
  obtain ⟨i,j,rfl,rfl,hmi,hij,hjb,hext,hlo,hhi⟩:=hrel
  have HLO:=zH hlo
  have HHI:=zH hhi
  have HW:=zH (HO.out.ext hext)
  have HE:=zH hext
  clear hlo hhi hext
  by_cases hlt:i < j
  ·obtain ⟨h,hh⟩:∃h,h=(i+j)/2:=⟨_,rfl⟩
   obtain ⟨q,hq⟩:∃q,p=q+h:=⟨p - h,by omega⟩
   have k1:(i:Int)≤(h:Int):=by omega
   have k2:(h:Int) < (j:Int):=by omega
   have k3:(i:Int) < (j:Int):=by omega
   have k4:(s0:Int)≤(i:Int):=by omega
   have k5:(j:Int)≤(r0:Int):=by omega
   have hm:((i:Int)+(j:Int))/2=(h:Int):=by omega
   have hpq:(p:Int) - (h:Int)=(q:Int):=by omega
   have hqN:q < N:=by omega
   have hhN:h < N:=by omega
   have HH:=zH hh
   have HQ:=zH hq
   clear hh hq
   go_wp2_with fail
   clear hm
   obtain ⟨W,rfl⟩:∃W:World,W=wr:=⟨_,rfl⟩
   have hs0:Ext W W:=Ext.refl W
   obtain ⟨p1,p2, -, -⟩:=HW.out.at HN.out hqN
   obtain ⟨q1,q2, -, -⟩:=HW.out.at HN.out hhN
   obtain ⟨x,hgx⟩:∃x,gt xs q=x:=⟨_,rfl⟩
   obtain ⟨y,hgy⟩:∃y,gt xs h=y:=⟨_,rfl⟩
   rw [hgx]at p1 p2
   rw [hgy]at q1 q2
   have HX:=zH (And.intro hgx hgy)
   clear hgx hgy
   obtain ⟨x1,x2⟩:=x
   obtain ⟨y1,y2⟩:=y
   simp only at p1 p2 q1 q2
   have P1:=zH p1
   have P2:=zH p2
   have Q1:=zH q1
   have Q2:=zH q2
   clear p1 p2 q1 q2
   have c1:∀w',Ext W w'→w'.cell? ⟨g,q*2,none⟩=some (.int .i64 x1):=fun w' h=>h.cell P1.out
   have c2:∀w',Ext W w'→w'.cell? ⟨g,q*2+1,none⟩=some (.int .i64 x2):=fun w' h=>h.cell P2.out
   have c3:∀w',Ext W w'→w'.cell? ⟨g,h*2,none⟩=some (.int .i64 y1):=fun w' h=>h.cell Q1.out
   have c4:∀w',Ext W w'→w'.cell? ⟨g,h*2+1,none⟩=some (.int .i64 y2):=fun w' h=>h.cell Q2.out
   have k6:(0:Int)≤(h:Int):=by omega
   have k7:(h:Int) < (N:Int):=by omega
   have k8:(0:Int)≤(q:Int):=by omega
   have k9:(q:Int) < (N:Int):=by omega
   have j1:IntKind.i64.wrap (q:Int)=(q:Int):=IntWalk.i64_in _ (by omega)
   cases hle:leS (y1,y2) (x1,x2)
   ·have hz:byZ (x1,x2) (y1,y2) < 0:=byZ_neg.2 hle
    go_region_held3 (fun w1=>Ext W w1) (first | (with_reducible assumption) | (exact Ext.drew (by with_reducible assumption)) | (with_reducible exact Ext.drew (Ext.alloc (by with_reducible assumption) _)) | (with_reducible exact Ext.alloc (by with_reducible assumption) _) | (exact Ext.trans (by with_reducible assumption) (by with_reducible assumption))) (first | (go_at_call 89;refine (by_any (x1,x2) (y1,y2) _).mono ?_;rintro e w1 ⟨rfl,hx⟩))
    go_wp2_with fail
    go_roundw
    case rel=>
     have e1:=HQ.out
     exact ⟨i,h,rfl,rfl,by omega,by omega,by omega,HE.out.trans (by with_reducible assumption),HLO.out,fun c h1 h2=>
      ltS_trans2 (y:=gt xs h) (ltS_trans (y:=gt xs q) (HOB.out.le (by omega:r0≤p - c) (by omega:p - c≤q) (by omega)) (by rw [HX.out.1,HX.out.2];exact hle)) (HOA.out.le (by omega) h1 (by omega))⟩
    case measure=>simp [intOf];omega
   ·have hz1 : 0 ≤ byZ (x1, x2) (y1, y2) := by
     by_cases hz:byZ (x1,x2) (y1,y2) < 0
     ·rw [byZ_neg.1 hz]at hle;cases hle
     ·omega
    have hz2:decide (byZ (x1,x2) (y1,y2) < 0)=false:=by simp;omega
    go_region_held3 (fun w1=>Ext W w1) (first | (with_reducible assumption) | (exact Ext.drew (by with_reducible assumption)) | (with_reducible exact Ext.drew (Ext.alloc (by with_reducible assumption) _)) | (with_reducible exact Ext.alloc (by with_reducible assumption) _) | (exact Ext.trans (by with_reducible assumption) (by with_reducible assumption))) (first | (go_at_call 89;refine (by_any (x1,x2) (y1,y2) _).mono ?_;rintro e w1 ⟨rfl,hx⟩))
    go_wp2_with fail
    go_roundw
    case rel=>
     have e1:=HQ.out
     exact ⟨h+1,j,by go_num,rfl,by omega,by omega,by omega,HE.out.trans (by with_reducible assumption),fun c h1 h2=>
      leS_trans _ _ _ (HOA.out.le (by omega:s0≤c) (by omega:c≤h) (by omega)) (leS_trans _ _ _ (show leS (gt xs h) (gt xs q)=true by rw [HX.out.1,HX.out.2];exact hle) (HOB.out.le (by omega) (by omega) (by omega))),HHI.out⟩
    case measure=>simp [intOf];omega
  ·have k3:(j:Int)≤(i:Int):=by omega
   obtain rfl:i=j:=by omega
   obtain ⟨s,hsi⟩:∃s,s=i:=⟨_,rfl⟩
   subst hsi
   obtain ⟨e,he⟩:∃e,n=e+s:=⟨n - s,by omega⟩
   have k4:(n:Int) - (s:Int)=(e:Int):=by omega
   have HSP:=zH (fun (zs:List (Int×Int)) (h:Rot s r0 e xs zs)=>sym_split (d:=mid) h (by omega:s0≤s) (by omega) (by omega) (by omega:e≤b) (by omega) HOA.out HOB.out
    (fun h1 h2=>by have h:=HLO.out (s - 1) (by have:=hSZ.out.1;omega) (by omega);rwa [show p - (s - 1)=e by omega]at h)
    (fun h1 h2=>by have h:=HHI.out s (by omega) (by omega);rw [show p - s=e - 1 by omega]at h;exact leS_of_lt h))
   clear HO HLO HHI hlt
   by_cases hX:s < r0
   ·by_cases hY:s0 < s
    ·by_cases hZ:e < b
     ·have f1:(s:Int) < (r0:Int):=by omega
      have f2:(r0:Int) < (e:Int):=by omega
      have f3:(s0:Int) < (s:Int):=by omega
      have f4:(s:Int) < (mid:Int):=by omega
      have f5:(mid:Int) < (e:Int):=by omega
      have f6:(e:Int) < (b:Int):=by omega
      go_wp2_with fail
      refine (rotate_any B g N cap s r0 e xs _ hBg HN.out hN2 (by omega) (by omega) (by omega) HW.out).mono ?_
      rintro e1 w1 ⟨rfl,hb1,zs,hyl,⟨hsg,hrt⟩,ho1⟩
      have SP:=zH (HSP.out zs hrt)
      have SG:=zH (hsg.mono (by omega:s0≤s) (by omega:e≤b))
      have HL:=zH hyl
      have HO1:=zH ho1
      have BE:=zH ((Below.mono HE.out hB).trans hb1)
      clear hb1 hyl hsg hrt ho1
      have hsz:B≤w1.heap.size:=by have:=BE.out.size;omega
      go_wp2_with fail
      refine (HI.out s0 s mid _ _ (by omega) hsz HL.out (by omega) (by omega) (by omega) SP.out.o1 SP.out.o2 HO1.out).mono ?_
      rintro e1 w2 ⟨rfl,hb1,ls,hyl,⟨hsg,hod⟩,ho1⟩
      have LS:=zH hsg
      have LO:=zH hod
      have HL2:=zH hyl
      have HO2:=zH ho1
      have BE2:=zH (BE.out.trans hb1)
      clear hb1 hyl hsg hod ho1 hsz
      have hsz:B≤w2.heap.size:=by have:=BE2.out.size;omega
      go_wp2_with fail
      refine (HI.out mid e b _ _ (by omega) hsz HL2.out (by omega) (by omega) (by omega) (SP.out.o3.congr fun i h1 h2=>LS.out.out i (by omega)) (SP.out.o4.congr fun i h1 h2=>LS.out.out i (by omega)) HO2.out).mono ?_
      rintro e1 w3 ⟨rfl,hb1,rs,hyl,⟨hsg,hod⟩,ho1⟩
      have RS:=zH hsg
      have RO:=zH hod
      have HL3:=zH hyl
      have HO3:=zH ho1
      have BE3:=zH (BE2.out.trans hb1)
      clear hb1 hyl hsg hod ho1 hsz
      go_wp2_with fail
      go_end0
      have hd:=SP.out.done (by omega) (by omega) (by omega) (by omega) LS.out LO.out RS.out RO.out
      exact ⟨rfl,BE3.out,_,HL3.out,⟨SG.out.trans hd.1,hd.2⟩,HO3.out⟩
     ·have f1:(s:Int) < (r0:Int):=by omega
      have f2:(r0:Int) < (e:Int):=by omega
      have f3:(s0:Int) < (s:Int):=by omega
      have f4:(s:Int) < (mid:Int):=by omega
      have f5:(mid:Int) < (e:Int):=by omega
      have f6:decide (e < b)=false:=by simp;omega
      have g6:(b:Int)≤(e:Int):=by omega
      go_wp2_with fail
      refine (rotate_any B g N cap s r0 e xs _ hBg HN.out hN2 (by omega) (by omega) (by omega) HW.out).mono ?_
      rintro e1 w1 ⟨rfl,hb1,zs,hyl,⟨hsg,hrt⟩,ho1⟩
      have SP:=zH (HSP.out zs hrt)
      have SG:=zH (hsg.mono (by omega:s0≤s) (by omega:e≤b))
      have HL:=zH hyl
      have HO1:=zH ho1
      have BE:=zH ((Below.mono HE.out hB).trans hb1)
      clear hb1 hyl hsg hrt ho1
      have hsz:B≤w1.heap.size:=by have:=BE.out.size;omega
      go_wp2_with fail
      refine (HI.out s0 s mid _ _ (by omega) hsz HL.out (by omega) (by omega) (by omega) SP.out.o1 SP.out.o2 HO1.out).mono ?_
      rintro e1 w2 ⟨rfl,hb1,ls,hyl,⟨hsg,hod⟩,ho1⟩
      have LS:=zH hsg
      have LO:=zH hod
      have HL2:=zH hyl
      have HO2:=zH ho1
      have BE2:=zH (BE.out.trans hb1)
      clear hb1 hyl hsg hod ho1 hsz
      have hsz:B≤w2.heap.size:=by have:=BE2.out.size;omega
      go_wp2_with fail
      have RS:=zH (Seg.refl mid b ls)
      have RO:=zH (show Ordered mid b ls by first | exact (SP.out.o4.sub (by omega) (by omega)).congr fun i h1 h2=>LS.out.out i (by omega) | exact (SP.out.o3.sub (by omega) (by omega)).congr fun i h1 h2=>LS.out.out i (by omega))
      have HL3:=HL2
      have HO3:=HO2
      have BE3:=BE2
      go_end0
      have hd:=SP.out.done (by omega) (by omega) (by omega) (by omega) LS.out LO.out RS.out RO.out
      exact ⟨rfl,BE3.out,_,HL3.out,⟨SG.out.trans hd.1,hd.2⟩,HO3.out⟩
    ·by_cases hZ:e < b
     ·have f1:(s:Int) < (r0:Int):=by omega
      have f2:(r0:Int) < (e:Int):=by omega
      have f3:decide (s0 < s)=false:=by simp;omega
      have g3:(s:Int)≤(s0:Int):=by omega
      have f4:(s:Int) < (mid:Int):=by omega
      have f5:(mid:Int) < (e:Int):=by omega
      have f6:(e:Int) < (b:Int):=by omega
      go_wp2_with fail
      refine (rotate_any B g N cap s r0 e xs _ hBg HN.out hN2 (by omega) (by omega) (by omega) HW.out).mono ?_
      rintro e1 w1 ⟨rfl,hb1,zs,hyl,⟨hsg,hrt⟩,ho1⟩
      have SP:=zH (HSP.out zs hrt)
      have SG:=zH (hsg.mono (by omega:s0≤s) (by omega:e≤b))
      have HL:=zH hyl
      have HO1:=zH ho1
      have BE:=zH ((Below.mono HE.out hB).trans hb1)
      clear hb1 hyl hsg hrt ho1
      have hsz:B≤w1.heap.size:=by have:=BE.out.size;omega
      go_wp2_with fail
      have LS:=zH (Seg.refl s0 mid zs)
      have LO:=zH (show Ordered s0 mid _ by first | exact SP.out.o2.sub (by omega) (by omega) | exact SP.out.o1.sub (by omega) (by omega))
      have HL2:=HL
      have HO2:=HO1
      have BE2:=BE
      refine (HI.out mid e b _ _ (by omega) hsz HL2.out (by omega) (by omega) (by omega) (SP.out.o3.congr fun i h1 h2=>LS.out.out i (by omega)) (SP.out.o4.congr fun i h1 h2=>LS.out.out i (by omega)) HO2.out).mono ?_
      rintro e1 w3 ⟨rfl,hb1,rs,hyl,⟨hsg,hod⟩,ho1⟩
      have RS:=zH hsg
      have RO:=zH hod
      have HL3:=zH hyl
      have HO3:=zH ho1
      have BE3:=zH (BE2.out.trans hb1)
      clear hb1 hyl hsg hod ho1 hsz
      go_wp2_with fail
      go_end0
      have hd:=SP.out.done (by omega) (by omega) (by omega) (by omega) LS.out LO.out RS.out RO.out
      exact ⟨rfl,BE3.out,_,HL3.out,⟨SG.out.trans hd.1,hd.2⟩,HO3.out⟩
     ·have f1:(s:Int) < (r0:Int):=by omega
      have f2:(r0:Int) < (e:Int):=by omega
      have f3:decide (s0 < s)=false:=by simp;omega
      have g3:(s:Int)≤(s0:Int):=by omega
      have f4:(s:Int) < (mid:Int):=by omega
      have f5:(mid:Int) < (e:Int):=by omega
      have f6:decide (e < b)=false:=by simp;omega
      have g6:(b:Int)≤(e:Int):=by omega
      go_wp2_with fail
      refine (rotate_any B g N cap s r0 e xs _ hBg HN.out hN2 (by omega) (by omega) (by omega) HW.out).mono ?_
      rintro e1 w1 ⟨rfl,hb1,zs,hyl,⟨hsg,hrt⟩,ho1⟩
      have SP:=zH (HSP.out zs hrt)
      have SG:=zH (hsg.mono (by omega:s0≤s) (by omega:e≤b))
      have HL:=zH hyl
      have HO1:=zH ho1
      have BE:=zH ((Below.mono HE.out hB).trans hb1)
      clear hb1 hyl hsg hrt ho1
      have hsz:B≤w1.heap.size:=by have:=BE.out.size;omega
      go_wp2_with fail
      have LS:=zH (Seg.refl s0 mid zs)
      have LO:=zH (show Ordered s0 mid _ by first | exact SP.out.o2.sub (by omega) (by omega) | exact SP.out.o1.sub (by omega) (by omega))
      have HL2:=HL
      have HO2:=HO1
      have BE2:=BE
      have RS:=zH (Seg.refl mid b zs)
      have RO:=zH (show Ordered mid b zs by first | exact (SP.out.o4.sub (by omega) (by omega)).congr fun i h1 h2=>LS.out.out i (by omega) | exact (SP.out.o3.sub (by omega) (by omega)).congr fun i h1 h2=>LS.out.out i (by omega))
      have HL3:=HL2
      have HO3:=HO2
      have BE3:=BE2
      go_end0
      have hd:=SP.out.done (by omega) (by omega) (by omega) (by omega) LS.out LO.out RS.out RO.out
      exact ⟨rfl,BE3.out,_,HL3.out,⟨SG.out.trans hd.1,hd.2⟩,HO3.out⟩
   ·by_cases hU:s < mid
    ·have f1:decide (s < r0)=false:=by simp;omega
     have g1:(r0:Int)≤(s:Int):=by omega
     have f2:(s0:Int) < (s:Int):=by omega
     have f3:(s:Int) < (mid:Int):=by omega
     have f4:decide (mid < e)=false:=by simp;omega
     have g4:(e:Int)≤(mid:Int):=by omega
     go_wp2_with fail
     have SP:=zH (HSP.out xs (Rot.same (by omega) xs))
     have SG:=zH (Seg.refl s0 b xs)
     have HL:=HN
     have HO1:=HW
     have BE:=zH (Below.mono HE.out hB)
     have hsz:B≤wr.heap.size:=by have:=BE.out.size;omega
     refine (HI.out s0 s mid _ _ (by omega) hsz HL.out (by omega) (by omega) (by omega) SP.out.o1 SP.out.o2 HO1.out).mono ?_
     rintro e1 w2 ⟨rfl,hb1,ls,hyl,⟨hsg,hod⟩,ho1⟩
     have LS:=zH hsg
     have LO:=zH hod
     have HL2:=zH hyl
     have HO2:=zH ho1
     have BE2:=zH (BE.out.trans hb1)
     clear hb1 hyl hsg hod ho1 hsz
     have hsz:B≤w2.heap.size:=by have:=BE2.out.size;omega
     go_wp2_with fail
     have RS:=zH (Seg.refl mid b ls)
     have RO:=zH (show Ordered mid b ls by first | exact (SP.out.o4.sub (by omega) (by omega)).congr fun i h1 h2=>LS.out.out i (by omega) | exact (SP.out.o3.sub (by omega) (by omega)).congr fun i h1 h2=>LS.out.out i (by omega))
     have HL3:=HL2
     have HO3:=HO2
     have BE3:=BE2
     go_end0
     have hd:=SP.out.done (by omega) (by omega) (by omega) (by omega) LS.out LO.out RS.out RO.out
     exact ⟨rfl,BE3.out,_,HL3.out,⟨SG.out.trans hd.1,hd.2⟩,HO3.out⟩
    ·have f1:decide (s < r0)=false:=by simp;omega
     have g1:(r0:Int)≤(s:Int):=by omega
     have f2:(s0:Int) < (s:Int):=by omega
     have f3:decide (s < mid)=false:=by simp;omega
     have g3:(mid:Int)≤(s:Int):=by omega
     have f4:decide (mid < e)=false:=by simp;omega
     have g4:(e:Int)≤(mid:Int):=by omega
     go_wp2_with fail
     have SP:=zH (HSP.out xs (Rot.same (by omega) xs))
     have SG:=zH (Seg.refl s0 b xs)
     have HL:=HN
     have HO1:=HW
     have BE:=zH (Below.mono HE.out hB)
     have hsz:B≤wr.heap.size:=by have:=BE.out.size;omega
     have LS:=zH (Seg.refl s0 mid xs)
     have LO:=zH (show Ordered s0 mid _ by first | exact SP.out.o2.sub (by omega) (by omega) | exact SP.out.o1.sub (by omega) (by omega))
     have HL2:=HL
     have HO2:=HO1
     have BE2:=BE
     have RS:=zH (Seg.refl mid b xs)
     have RO:=zH (show Ordered mid b xs by first | exact (SP.out.o4.sub (by omega) (by omega)).congr fun i h1 h2=>LS.out.out i (by omega) | exact (SP.out.o3.sub (by omega) (by omega)).congr fun i h1 h2=>LS.out.out i (by omega))
     have HL3:=HL2
     have HO3:=HO2
     have BE3:=BE2
     go_end0
     have hd:=SP.out.done (by omega) (by omega) (by omega) (by omega) LS.out LO.out RS.out RO.out
     exact ⟨rfl,BE3.out,_,HL3.out,⟨SG.out.trans hd.1,hd.2⟩,HO3.out⟩
end Go.Proofs.Ytemmjmplhknemaa
namespace Go.Proofs.Ytemmjmplhknemaa
theorem sym_less (B g N cap:Nat) (hBg:B≤g) (hN2:N≤4000000000000):∀K,SymLess B g N cap K:=by
 intro K
 induction K with
 | zero=>intro a m b xs w h;omega
 | succ K ih=>
  intro a m b xs w h hB hN ham hmb hb hoA hoB ho
  by_cases c1:m=a+1
  ·exact symA_any B g N cap a m b xs w hB hBg hN hN2 c1 hmb hb hoB ho
  ·by_cases c2:b=m+1
   ·exact symB_any B g N cap a m b xs w hB hBg hN hN2 (by omega) c2 hb hoA ho
   ·have IH:SymLess B g N cap (b - a):=fun a' m' b' xs' w' h'=>ih a' m' b' xs' w' (by omega)
    by_cases c3:(a+b)/2 < m
    ·exact symC1_any B g N cap a m b _ xs w hB hBg hN hN2 (by omega) (by omega) hb rfl c3 hoA hoB IH ho
    ·exact symC2_any B g N cap a m b _ xs w hB hBg hN hN2 (by omega) (by omega) hb rfl (by omega) hoA hoB IH ho
theorem sym_any (B g N cap a m b:Nat) (xs:List (Int×Int)) (w:World) (hB:B≤w.heap.size) (hBg:B≤g) (hN:xs.length=N) (hN2:N≤4000000000000) (ham:a < m) (hmb:m < b) (hb:b≤N)
  (hoA:Ordered a m xs) (hoB:Ordered m b xs) (ho:OwnS w B (.slice (some ⟨g,0,none⟩) N cap) xs):
  Calls Try.prog 94 #[.slice (some ⟨g,0,none⟩) N cap,.int .i64 a,.int .i64 m,.int .i64 b,.func (.func 89) #[] #[]] w
   (InPlace w B g N cap (fun ys=>Seg a b xs ys∧Ordered a b ys)):=
 sym_less B g N cap hBg hN2 (b - a+1) a m b xs w (by omega) hB hN ham hmb hb hoA hoB ho
end Go.Proofs.Ytemmjmplhknemaa
namespace Go.Proofs.Ytemmjmplhknemaa
open Go.RowKit
theorem insSort_z (B g N cap a b:Nat) (xs:List (Int×Int)) (w:World) (x y:Int) (hx:x=a) (hy:y=b) (hB:B≤w.heap.size) (hBg:B≤g) (hN:xs.length=N) (hN2:N≤4000000000000) (hab:a≤b) (hb:b≤N)
  (ho:OwnS w B (.slice (some ⟨g,0,none⟩) N cap) xs):
  Calls Try.prog 93 #[.slice (some ⟨g,0,none⟩) N cap,.int .i64 x,.int .i64 y,.func (.func 89) #[] #[]] w
   (InPlace w B g N cap (fun ys=>Seg a b xs ys∧Ordered a b ys)):=by
 subst hx hy
 exact insSort_any B g N cap a b xs w hB hBg hN hN2 hab hb ho
theorem sym_z (B g N cap a m b:Nat) (xs:List (Int×Int)) (w:World) (x y z:Int) (hx:x=a) (hy:y=m) (hz:z=b) (hB:B≤w.heap.size) (hBg:B≤g) (hN:xs.length=N) (hN2:N≤4000000000000) (ham:a < m) (hmb:m < b) (hb:b≤N)
  (hoA:Ordered a m xs) (hoB:Ordered m b xs) (ho:OwnS w B (.slice (some ⟨g,0,none⟩) N cap) xs):
  Calls Try.prog 94 #[.slice (some ⟨g,0,none⟩) N cap,.int .i64 x,.int .i64 y,.int .i64 z,.func (.func 89) #[] #[]] w
   (InPlace w B g N cap (fun ys=>Seg a b xs ys∧Ordered a b ys)):=by
 subst hx hy hz
 exact sym_any B g N cap a m b xs w hB hBg hN hN2 ham hmb hb hoA hoB ho
def Stab1 (w:World) (B g N cap:Nat) (xs:List (Int×Int)) (va vb:Value) (wr:World):Prop:=
 ∃(a:Nat) (zs:List (Int×Int)),va= .int .i64 a∧vb= .int .i64 ((a:Int)+20)∧a≤N∧Below B w wr∧zs.length=N∧Seg 0 N xs zs∧DBlk 20 zs a∧OwnS wr B (.slice (some ⟨g,0,none⟩) N cap) zs
def Stab2 (w:World) (B g N cap:Nat) (xs:List (Int×Int)) (vs:Value) (wr:World):Prop:=
 ∃(s:Nat) (zs:List (Int×Int)),vs= .int .i64 s∧0 < s∧s≤8000000000000∧Below B w wr∧zs.length=N∧Seg 0 N xs zs∧Blk s N zs 0∧OwnS wr B (.slice (some ⟨g,0,none⟩) N cap) zs
def Stab3 (w:World) (B g N cap s:Nat) (xs:List (Int×Int)) (va vb:Value) (wr:World):Prop:=
 ∃(a:Nat) (zs:List (Int×Int)),va= .int .i64 a∧vb= .int .i64 ((a:Int)+2*(s:Int))∧a≤N∧Below B w wr∧zs.length=N∧Seg 0 N xs zs∧DBlk (2*s) zs a∧Blk s N zs a∧OwnS wr B (.slice (some ⟨g,0,none⟩) N cap) zs
theorem stable_any (B g N cap:Nat) (xs:List (Int×Int)) (w:World) (hB:B≤w.heap.size) (hBg:B≤g) (hN:xs.length=N) (hN2:N≤4000000000000)
  (ho:OwnS w B (.slice (some ⟨g,0,none⟩) N cap) xs):
  Calls Try.prog 90 #[.slice (some ⟨g,0,none⟩) N cap,.int .i64 N,.func (.func 89) #[] #[]] w
   (InPlace w B g N cap (fun ys=>Seg 0 N xs ys∧Ordered 0 N ys)):=by
 have HO:=zH ho
 have HN:=zH hN
 clear ho hN
 have i0:(N:Int)≤4000000000000:=by omega
 go_enter Try.func90,Try.ntmps90
 go_wp2_with fail
 go_loopw [7,8] (fun a b wr=>Stab1 w B g N cap xs a b wr) (fun a _ _=>N - (intOf a).toNat)
 case atStart=>exact ⟨0,xs,rfl,rfl,by omega,Below.refl _ _,HN.out,Seg.refl _ _ _,DBlk.zero,HO.out⟩
 case round=>
  obtain ⟨a,zs,rfl,rfl,haN,hbel,hzl,hseg,hdb,hown⟩:=hrel
  have HW:=zH hown
  have HBL:=zH hbel
  have HY:=zH hzl
  have HSG:=zH hseg
  have HD:=zH hdb
  clear hown hbel hzl hseg hdb HO HN
  have hsz:B≤wr.heap.size:=by have:=HBL.out.size;omega
  by_cases hlt:a+20≤N
  ·have k1:(a:Int)+20≤(N:Int):=by omega
   go_wp2_with fail
   refine (insSort_z B g N cap a (a+20) zs _ _ _ (by omega) (by omega) hsz hBg HY.out hN2 (by omega) (by omega) HW.out).mono ?_
   rintro e w1 ⟨rfl,hb1,ys,hyl,⟨hs1,ho1⟩,hw1⟩
   have H1:=zH hw1
   have H2:=zH hyl
   have H3:=zH (HBL.out.trans hb1)
   have H4:=zH (HSG.out.trans (hs1.mono (by omega:0≤a) (by omega:a+20≤N)))
   have H5:=zH (DBlk.snoc a (HD.out.congr fun i hi=>hs1.out i (by omega)) ho1)
   clear hw1 hyl hb1 hs1 ho1
   go_wp2_with fail
   go_roundw
   case rel=>exact ⟨a+20,ys,by go_num,by congr 1,by omega,H3.out,H2.out,H4.out,H5.out,H1.out⟩
   case measure=>simp [intOf];omega
  ·have k1:(N:Int) < (a:Int)+20:=by omega
   go_wp2_with fail
   refine (insSort_z B g N cap a N zs _ _ _ rfl rfl hsz hBg HY.out hN2 (by omega) (by omega) HW.out).mono ?_
   rintro e w1 ⟨rfl,hb1,ys,hyl,⟨hs1,ho1⟩,hw1⟩
   have H1:=zH hw1
   have H2:=zH hyl
   have H3:=zH (HBL.out.trans hb1)
   have H4:=zH (HSG.out.trans (hs1.mono (by omega:0≤a) (by omega:N≤N)))
   have H5:=zH (DBlk.all (N:=N) (HD.out.congr fun i hi=>hs1.out i (by omega)) (Blk.last a haN (by omega) ho1) haN)
   clear hw1 hyl hb1 hs1 ho1 HW HBL HY HSG HD hsz
   go_wp2_with fail
   go_loopw [6,7,8,9] (fun s _ _ _ wr=>Stab2 w B g N cap xs s wr) (fun s _ _ _ _=>N - (intOf s).toNat)
   case atStart=>exact ⟨20,ys,rfl,by omega,by omega,H3.out,H2.out,H4.out,H5.out,H1.out⟩
   case round=>
    clear H1 H2 H3 H4 H5
    obtain ⟨s,zs,rfl,hs0,hs8,hbel,hzl,hseg,hbk,hown⟩:=hrel
    have HW:=zH hown
    have HBL:=zH hbel
    have HY:=zH hzl
    have HSG:=zH hseg
    have HK:=zH hbk
    clear hown hbel hzl hseg hbk
    by_cases hlt:s < N
    rotate_left
    ·have k2:(N:Int)≤(s:Int):=by omega
     have k3:decide (s < N)=false:=by simp;omega
     go_wp2_with fail
     go_end0
     exact ⟨rfl,HBL.out,zs,HY.out,⟨HSG.out,HK.out.one (by omega)⟩,HW.out⟩
    have k2:(s:Int) < (N:Int):=by omega
    have k3:(0:Int) < (s:Int):=by omega
    go_wp2_with fail
    go_loopw [7,8] (fun a b wr=>Stab3 w B g N cap s xs a b wr) (fun a _ _=>N - (intOf a).toNat)
    case atStart=>exact ⟨0,zs,rfl,by congr 1;omega,by omega,HBL.out,HY.out,HSG.out,DBlk.zero,HK.out,HW.out⟩
    case round=>
     clear HW HBL HY HSG HK
     obtain ⟨c,ys,rfl,rfl,hcN,hbel,hzl,hseg,hdb,hbk,hown⟩:=hrel
     have HW:=zH hown
     have HBL:=zH hbel
     have HY:=zH hzl
     have HSG:=zH hseg
     have HD:=zH hdb
     have HK:=zH hbk
     clear hown hbel hzl hseg hdb hbk
     have hsz:B≤wr.heap.size:=by have:=HBL.out.size;omega
     by_cases hlt2:c+2*s≤N
     ·have k4:(c:Int)+2*(s:Int)≤(N:Int):=by omega
      obtain ⟨o1,o2,hrest⟩:=HK.out.two hs0 hlt2
      have HR:=zH hrest
      clear hrest
      go_wp2_with fail
      refine (sym_z B g N cap c (c+s) (c+2*s) ys _ _ _ _ (by omega) (by omega) (by omega) hsz hBg HY.out hN2 (by omega) (by omega) hlt2 o1 o2 HW.out).mono ?_
      rintro e w2 ⟨rfl,hb1,ts,hyl,⟨hs1,ho1⟩,hw1⟩
      have H1:=zH hw1
      have H2:=zH hyl
      have H3:=zH (HBL.out.trans hb1)
      have H4:=zH (HSG.out.trans (hs1.mono (by omega:0≤c) hlt2))
      have H5:=zH (DBlk.snoc c (HD.out.congr fun i hi=>hs1.out i (by omega)) ho1)
      have H6:=zH (HR.out.congr fun i hi=>hs1.out i (by omega))
      clear hw1 hyl hb1 hs1 ho1 o1 o2
      go_wp2_with fail
      go_roundw
      case rel=>exact ⟨c+2*s,ts,by go_num,by congr 1,by omega,H3.out,H2.out,H4.out,H5.out,H6.out,H1.out⟩
      case measure=>simp [intOf];omega
     ·have k4:(N:Int) < (c:Int)+2*(s:Int):=by omega
      by_cases hms:c+s < N
      ·have k5:(c:Int)+(s:Int) < (N:Int):=by omega
       obtain ⟨o1,o2⟩:=HK.out.lastTwo hms (by omega)
       go_wp2_with fail
       refine (sym_z B g N cap c (c+s) N ys _ _ _ _ (by omega) (by omega) (by omega) hsz hBg HY.out hN2 (by omega) (by omega) (by omega) o1 o2 HW.out).mono ?_
       rintro e w2 ⟨rfl,hb1,ts,hyl,⟨hs1,ho1⟩,hw1⟩
       have H1:=zH hw1
       have H2:=zH hyl
       have H3:=zH (HBL.out.trans hb1)
       have H4:=zH (HSG.out.trans (hs1.mono (by omega:0≤c) (by omega:N≤N)))
       have H5:=zH (DBlk.all (N:=N) (HD.out.congr fun i hi=>hs1.out i (by omega)) (Blk.last c hcN (by omega) ho1) hcN)
       clear hw1 hyl hb1 hs1 ho1 o1 o2
       go_wp2_with fail
       go_roundw
       case rel=>exact ⟨2*s,ts,by congr 1;omega,by omega,by omega,H3.out,H2.out,H4.out,H5.out,H1.out⟩
       case measure=>simp [intOf];omega
      ·have k5:(N:Int)≤(c:Int)+(s:Int):=by omega
       have H5:=zH (DBlk.all (N:=N) HD.out (Blk.last c hcN (by omega) (HK.out.one (by omega))) hcN)
       go_wp2_with fail
       go_roundw
       case rel=>exact ⟨2*s,ys,by congr 1;omega,by omega,by omega,HBL.out,HY.out,HSG.out,H5.out,HW.out⟩
       case measure=>simp [intOf];omega
theorem sortStable_any (B g N cap:Nat) (xs:List (Int×Int)) (w:World) (hB:B≤w.heap.size) (hBg:B≤g) (hN:xs.length=N) (hN2:N≤4000000000000)
  (ho:OwnS w B (.slice (some ⟨g,0,none⟩) N cap) xs):
  Calls Try.prog 88 #[.slice (some ⟨g,0,none⟩) N cap,.func (.func 89) #[] #[]] w
   (InPlace w B g N cap (fun ys=>Seg 0 N xs ys∧Ordered 0 N ys)):=by
 have HO:=zH ho
 have HN:=zH hN
 clear ho hN
 go_enter Try.func88,Try.ntmps88
 go_wp2_with fail
 refine (stable_any B g N cap xs _ hB hBg HN.out hN2 HO.out).mono ?_
 rintro e w1 ⟨rfl,hb1,ys,hyl,hs1,hw1⟩
 have H1:=zH hw1
 have H2:=zH hyl
 have H3:=zH hb1
 have H4:=zH hs1
 clear hw1 hyl hb1 hs1
 go_wp2_with fail
 go_end0
 exact ⟨rfl,H3.out,ys,H2.out,H4.out,H1.out⟩
theorem Ordered.all {N:Nat} {ys:List (Int×Int)} (h:Ordered 0 N ys) (hl:ys.length=N):ys.Pairwise (fun x y=>leS x y=true):=by
 rw [List.pairwise_iff_getElem]
 intro i j hi hj hij
 have:=h i j (by omega) hij (by omega)
 simpa [gt,List.getElem?_eq_getElem hi,List.getElem?_eq_getElem hj]using this
theorem insSort_nil (w:World):
  Calls Try.prog 93 #[.slice none 0 0,.int .i64 0,.int .i64 0,.func (.func 89) #[] #[]] w fun e w'=>e= .returned (.tuple #[])∧Ext w w':=by
 go_enter Try.func93,Try.ntmps93
 go_wp2_with fail
 go_loopw [8] (fun i wr=>i= .int .i64 1∧Ext w wr) (fun _ _=>0)
 case atStart=>exact ⟨rfl,Ext.refl _⟩
 case round=>
  obtain ⟨rfl,hx⟩:=hrel
  go_wp2_with fail
  go_end0
  exact ⟨rfl,hx⟩
theorem stable_nil (w:World):
  Calls Try.prog 90 #[.slice none 0 0,.int .i64 0,.func (.func 89) #[] #[]] w fun e w'=>e= .returned (.tuple #[])∧Ext w w':=by
 go_enter Try.func90,Try.ntmps90
 go_wp2_with fail
 go_loopw [7,8] (fun a b wr=>a= .int .i64 0∧b= .int .i64 20∧Ext w wr) (fun _ _ _=>0)
 case atStart=>exact ⟨rfl,rfl,Ext.refl _⟩
 case round=>
  obtain ⟨rfl,rfl,hx⟩:=hrel
  go_wp2_with fail
  refine (insSort_nil _).mono ?_
  rintro e w1 ⟨rfl,hx1⟩
  replace hx:=hx.trans hx1
  clear hx1
  go_wp2_with fail
  go_loopw [6] (fun s wr=>s= .int .i64 20∧Ext w wr) (fun _ _=>0)
  case atStart=>exact ⟨rfl,hx⟩
  case round=>
   obtain ⟨rfl,hx⟩:=hrel
   go_wp2_with fail
   go_end0
   exact ⟨rfl,hx⟩
theorem sortStable_nil (w:World):
  Calls Try.prog 88 #[.slice none 0 0,.func (.func 89) #[] #[]] w fun e w'=>e= .returned (.tuple #[])∧Ext w w':=by
 go_enter Try.func88,Try.ntmps88
 go_wp2_with fail
 refine (stable_nil _).mono ?_
 rintro e w1 ⟨rfl,hx⟩
 go_wp2_with fail
 go_end0
 exact ⟨rfl,hx⟩
theorem clone_none (cap:Nat) (W:World):
  Calls Try.prog 87 #[.slice none 0 cap] W fun e w'=>e= .returned (.slice none 0 0)∧Ext W w':=by
 have he:=fun w=>Lib.run_eql_slice_nil (P:=Try.prog) w 25 62 none 0 cap 0 0 Try.underlying25
 simp only [Option.isNone_none]at he
 go_enter Try.func87,Try.ntmps87
 go_wp2_with fail
 go_ret
 exact ⟨rfl,Ext.refl _⟩
theorem clone_some (ad:Addr) (cap:Nat) (xs:List (Int×Int)) (W:World) (hlen:xs.length≤4000000000000) (hl:SpansAt W (some ad) xs):
  Calls Try.prog 87 #[.slice (some ad) xs.length cap] W fun e w'=>∃g cap,e= .returned (.slice (some ⟨g,0,none⟩) xs.length cap)∧OwnS w' W.heap.size (.slice (some ⟨g,0,none⟩) xs.length cap) xs∧Below W.heap.size W w':=by
 have he:=fun w=>Lib.run_eql_slice_nil (P:=Try.prog) w 25 62 (some ad) xs.length cap 0 0 Try.underlying25
 simp only [Option.isNone_some]at he
 have HL:=zH hl
 clear hl
 go_enter Try.func87,Try.ntmps87
 go_wp2_with (at_builtin;refine wpList_app rfl (.tmp 5) (.tmp 6) 25 rfl spanInfo spanCells rfl (by exact Own.empty 62 2 spanC W W.heap.size (Nat.le_refl _)) xs ad cap xs.length xs.length (by simp) rfl rfl (by exact RowAt.ext HL.out ((Ext.refl _).alloc _)) (by omega) (by simp [maxLen];try omega) (by simp) ?_;intro A3 cap3 w3 hown3 hgr3 hat3;have HO3:=zH hown3;have hX3:Ext W w3:=Own.below (Own.empty 62 2 spanC W W.heap.size (Nat.le_refl _)) ((Below.refl _ _).alloc (Nat.le_refl _) _) hgr3 (by simp);have HT:=zH hat3;clear hown3 hgr3 hat3)
 have hA:∃g,A3=some ⟨g,0,none⟩:=by
  rcases HO3.out.2 with ⟨h,_⟩ | ⟨g,_,_,h,_⟩
  ·exfalso
   have:=HT.out
   injection h with h1 h2 h3
   subst h1
   simp [Value.ownBlock,Act.eval]at this
  ·injection h with h1 h2 h3
   exact ⟨g,h1⟩
 obtain ⟨g,rfl⟩:=hA
 go_ret
 exact ⟨g,cap3,rfl,by simpa using HO3.out,hX3⟩
theorem sort_any (A:Option Addr) (cap:Nat) (xs:List (Int×Int)) (W:World) (hlen:xs.length≤1000000) (hl:SpansAt W A xs):
  Calls Try.prog 86 #[.slice A xs.length cap] W (RetS W W.heap.size (sortS xs)):=by
 have HL:=zH hl
 clear hl
 cases A with
 | none=>
  obtain rfl:=row_none HL.out
  simp only [List.length_nil]
  go_enter Try.func86,Try.ntmps86
  go_wp2_with fail
  refine (clone_none _ _).mono ?_
  rintro e w1 ⟨rfl,hx⟩
  go_wp2_with fail
  refine (sortStable_nil _).mono ?_
  rintro e w2 ⟨rfl,hx2⟩
  have hx':=hx.trans hx2
  clear hx hx2
  go_wp2_with fail
  go_ret
  exact ⟨_,rfl,by rw [show sortS []= []from by simp [sortS]];exact Own.nil _ _ _ _ _,hx'⟩
 | some ad=>
  go_enter Try.func86,Try.ntmps86
  go_wp2_with fail
  refine (clone_some ad cap xs _ (by omega) HL.out).mono ?_
  rintro e w1 ⟨g,cap1,rfl,ho,hb⟩
  have HO:=zH ho
  have HB:=zH hb
  clear ho hb
  have hg:W.heap.size≤g:=by
   rcases HO.out.2 with ⟨h,_⟩ | ⟨g',_,_,h,hb,_⟩
   ·simp at h
   ·simp at h;omega
  go_wp2_with fail
  refine (sortStable_any W.heap.size g xs.length cap1 xs _ (Ext.size HB.out) hg rfl (by omega) HO.out).mono ?_
  rintro e w2 ⟨rfl,hb2,ys,hyl,⟨hs,hord⟩,ho2⟩
  have HO2:=zH ho2
  have HB2:=zH (HB.out.trans hb2)
  have HS:=zH hs
  have HD:=zH hord
  have HY:=zH hyl
  clear ho2 hb2 hs hord hyl
  go_wp2_with fail
  go_ret
  have he:sortS xs=ys:=(sortS_unique (Seg.perm HS.out) (Ordered.all HD.out HY.out)).symm
  exact ⟨_,rfl,by rw [he];exact HO2.out,HB2.out⟩
theorem same_of {xs ys:List (Int×Int)} (hl:xs.length=ys.length) (h:∀i,i < xs.length→xs.getD i (0,0)=ys.getD i (0,0)):xs=ys:=by
 refine List.ext_getElem hl fun i h1 h2=> ?_
 have:=h i h1
 simpa [List.getElem?_eq_getElem h1,List.getElem?_eq_getElem h2]using this
theorem refsame_any (A A2:Option Addr) (cap cap2:Nat) (xs ys:List (Int×Int)) (W:World) (hlen:xs.length≤9223372036854775807) (hlen2:ys.length≤9223372036854775807) (hl:SpansAt W A xs) (hl2:SpansAt W A2 ys):
  Calls Try.prog 16 #[.slice A xs.length cap,.slice A2 ys.length cap2] W fun e w'=>e= .returned (.bool (decide (xs=ys)))∧Ext W w':=by
 have HL:=zH hl
 have HL2:=zH hl2
 clear hl hl2
 by_cases hne:xs.length=ys.length
 rotate_left
 ·have h1:((xs.length:Int) !=(ys.length:Int))=true:=by rw [bne_iff_ne];omega
  have h2:decide (xs=ys)=false:=by simp;intro e;subst e;exact hne rfl
  have HR:=zH h2
  clear h2 hne
  go_enter Try.func16,Try.ntmps16
  go_wp2_with fail
  go_ret
  exact ⟨ret_bool (by rw [HR.out]),Ext.refl _⟩
 have HN:=zH hne
 have h1:((xs.length:Int) !=(ys.length:Int))=false:=by rw [←HN.out];simp
 clear hne
 go_enter Try.func16,Try.ntmps16
 go_wp2_with fail
 go_loopw [5] (fun i wr=>∃k:Nat,k≤xs.length∧i= .int .i64 k∧Ext W wr∧Hid (∀i,i < k→xs.getD i (0,0)=ys.getD i (0,0))) (fun i _=>xs.length - (intOf i).toNat)
 case atStart=>exact ⟨0,by omega,rfl,Ext.refl _,zH (by omega)⟩
 case round=>
  obtain ⟨k,hk,rfl,hxr,hq⟩:=hrel
  by_cases hlt:k < xs.length
  rotate_left
  ·have HR:=zH (same_of HN.out (fun i hi=>hq.out i (by omega)))
   clear hq
   go_wp2_with fail
   go_ret
   exact ⟨ret_bool (by simp [HR.out]),hxr⟩
  have hlt2:k < ys.length:=by have:=HN.out;omega
  obtain ⟨lb,off,rfl,hc⟩:=HL.out.get (by omega)
  obtain ⟨lb2,off2,rfl,hc2⟩:=HL2.out.get (by omega)
  obtain ⟨e1,e2⟩:=spans_cell hc hlt
  obtain ⟨e3,e4⟩:=spans_cell hc2 hlt2
  have c1:=hxr.cell e1
  have c2:=hxr.cell e2
  have c3:=hxr.cell e3
  have c4:=hxr.cell e4
  have HS:=zH (fun (h:xs.getD k (0,0)=ys.getD k (0,0))=>(fun i (hi:i < k+1)=>by
   rcases Nat.lt_or_ge i k with h' | h'
   ·exact hq.out i h'
   ·obtain rfl:i=k:=by omega
    exact h:∀i,i < k+1→xs.getD i (0,0)=ys.getD i (0,0)))
  have HD:=zH (fun (h:xs.getD k (0,0)≠ys.getD k (0,0))=>(fun e:xs=ys=>h (by rw [e]):xs≠ys))
  clear e1 e2 e3 e4 hc hc2 HL HL2 hq HN
  generalize xs.getD k (0,0)=x at*
  generalize ys.getD k (0,0)=y at*
  obtain ⟨a,s⟩:=x
  obtain ⟨c,d⟩:=y
  simp only at c1 c2 c3 c4
  have ib1:(k:Int) < (xs.length:Int):=by omega
  have ib2:(k:Int) < (ys.length:Int):=by omega
  have ib3:(0:Int)≤(k:Int):=by omega
  by_cases he:a=c∧s=d
  ·obtain ⟨rfl,rfl⟩:=he
   go_wp2_with fail
   go_quiet (fail)
   go_wp2_with fail
   go_roundw
   case rel=>exact ⟨k+1,by omega,by go_num,hxr.drewN _,zH (HS.out (by first | rfl | trivial))⟩
   case measure=>simp [intOf];omega
  ·have HE:=zH (HD.out (by intro e;injection e with e1 e2;exact he ⟨e1,e2⟩))
   have hb:(a==c)=false∨(a=c∧(s==d)=false):=by
    by_cases h1:a=c
    ·exact .inr ⟨h1,by rw [beq_eq_false_iff_ne];exact fun h=>he ⟨h1,h⟩⟩
    ·exact .inl (by rw [beq_eq_false_iff_ne];exact h1)
   clear he HD HS
   rcases hb with hb | ⟨rfl,hb⟩
   all_goals
    go_wp2_with fail
    go_quiet (fail)
    go_wp2_with fail
    go_ret
    exact ⟨ret_bool (decide_eq_false HE.out).symm,hxr.drewN _⟩
def chainB (zs:List (Int×Int)):Bool:=decide (∀i,i < zs.length→mayB (zs.getD i (0,0)).1 (zs.getD i (0,0)).2=true∧∀j,j < i→j+1=i→(zs.getD j (0,0)).1+(zs.getD j (0,0)).2≤(zs.getD i (0,0)).1)
theorem chain_yes {zs:List (Int×Int)} (h:∀i,i < zs.length→mayB (zs.getD i (0,0)).1 (zs.getD i (0,0)).2=true∧∀j,j < i→j+1=i→(zs.getD j (0,0)).1+(zs.getD j (0,0)).2≤(zs.getD i (0,0)).1):chainB zs=true:=decide_eq_true h
theorem chain_no2 {zs:List (Int×Int)} {j:Nat} (hi:j+1 < zs.length) (h:(zs.getD (j+1) (0,0)).1 < (zs.getD j (0,0)).1+(zs.getD j (0,0)).2):chainB zs=false:=
 decide_eq_false fun H=>by have:=(H (j+1) hi).2 j (by omega) rfl;omega
theorem RetS.open {w:World} {xs:List (Int×Int)} {e:Ending} {w':World} (h:RetS w w.heap.size xs e w'):∃A cap,e= .returned (.slice A xs.length cap)∧SpansAt w' A xs∧Ext w w':=by
 obtain ⟨v,rfl,ho,hb⟩:=h
 obtain ⟨A,cap,rfl,hr,_⟩:=ho.form spanCells (by decide)
 exact ⟨A,cap,rfl,hr,hb⟩
end Go.Proofs.Ytemmjmplhknemaa
