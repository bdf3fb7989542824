/- Merged by program (merge.py) out of: SortC, SortD, SymSpec, SortE, SortF, SortG, StabSpec. -/
import Derived.Test.YtphpppjfogpohaaGreatMy0
import Derived.Test.YtphpppjfogpohaaGreatMy9
set_option linter.unusedSimpArgs false
set_option linter.unusedVariables false
set_option maxRecDepth 100000
set_option maxHeartbeats 16000000
namespace Go.Proofs.YtphpppjfogpohaaGreat
open Go.RowKit
theorem OwnS.ext {w w':World} {B:Nat} {v:Value} {xs:List (Int×Int)} (h:OwnS w B v xs) (he:Ext w w'):OwnS w' B v xs:=Own.ext h he
def yr (w:World) (B g N cap a b:Nat) (xs:List (Int×Int)) (i:Value) (wr:World):Prop:=
 ∃(k:Nat) (ys:List (Int×Int)),i= .int .i64 k∧a+1≤k∧(k≤b∨k=a+1)∧Below B w wr∧ys.length=N∧Seg a b xs ys∧Ordered a k ys∧OwnS wr B (.slice (some ⟨g,0,none⟩) N cap) ys
def xf (w:World) (B g N cap a b k:Nat) (xs:List (Int×Int)) (j:Value) (wr:World):Prop:=
 ∃(m:Nat) (ys:List (Int×Int)),j= .int .i64 m∧a≤m∧m≤k∧Below B w wr∧ys.length=N∧Seg a b xs ys∧Almost a m k ys∧OwnS wr B (.slice (some ⟨g,0,none⟩) N cap) ys
theorem pd (B g N cap a b:Nat) (xs:List (Int×Int)) (w:World) (hB:B≤w.heap.size) (hBg:B≤g) (hN:xs.length=N) (hN2:N≤4000000000000) (hab:a≤b) (hb:b≤N)
  (ho:OwnS w B (.slice (some ⟨g,0,none⟩) N cap) xs):
  Calls Tryz.prog 241 #[.slice (some ⟨g,0,none⟩) N cap,.int .i64 a,.int .i64 b,.func (.func 237) #[] #[]] w
   (cw w B g N cap (fun ys=>Seg a b xs ys∧Ordered a b ys)):=by
 have HO:=zH ho
 have HN:=zH hN
 clear ho hN
 go_enter Tryz.func241,Tryz.ntmps241
 go_wp2_with fail
 go_loopw [8] (fun i wr=>yr w B g N cap a b xs i wr) (fun i _=>b+1 - (intOf i).toNat)
 case atStart=>exact ⟨a+1,xs,by go_num,by omega,by omega,Below.refl _ _,HN.out,AF _ _ _,fun i j h1 h2 h3=>by omega,HO.out⟩
 case round=>
  obtain ⟨k,ys,rfl,hak,hkb,hbel,hyl,hseg,hord,hown⟩:=hrel
  have HW:=zH hown
  have HBL:=zH hbel
  have HY:=zH hyl
  have HSG:=zH hseg
  have HOR:=zH hord
  clear hown hbel hyl hseg hord HO HN
  by_cases hlt:k < b
  rotate_left
  ·have hge:(b:Int)≤(k:Int):=by omega
   go_wp2_with fail
   go_end0
   exact ⟨rfl,HBL.out,ys,HY.out,⟨HSG.out,HOR.out.sub (Nat.le_refl _) oM⟩,HW.out⟩
  have i0:(k:Int) < (b:Int):=by omega
  have i9:(N:Int)≤4000000000000:=by omega
  have i8:(b:Int)≤(N:Int):=by omega
  go_wp2_with fail
  go_loopw [9] (fun j wr=>xf w B g N cap a b k xs j wr) (fun j _=>(intOf j).toNat)
  case atStart=>exact ⟨k,ys,rfl,by omega,by omega,HBL.out,HY.out,HSG.out,Almost.start HOR.out,HW.out⟩
  case round=>
   clear HW HBL HY HSG HOR
   obtain ⟨m,zs,rfl,ham,hmk,hbel,hzl,hseg,hal,hown⟩:=hrel
   have HW:=zH hown
   have HBL:=zH hbel
   have HY:=zH hzl
   have HSG:=zH hseg
   have HAL:=zH hal
   clear hown hbel hzl hseg hal
   obtain ⟨W,rfl⟩:∃W:World,W=wr:=⟨_,rfl⟩
   have hs0:Ext W W:=zo W
   have i1:(0:Int)≤(m:Int):=by omega
   have i2:(m:Int) < (N:Int):=by omega
   by_cases hma:m=a
   ·have HMA:=zH hma
    have hd:decide (a < m)=false:=by simp;omega
    clear hma
    go_wp2_with fail
    go_quiet (fail)
    go_wp2_with fail
    go_roundw
    case rel=>exact ⟨k+1,zs,by go_num,by omega,by omega,oL HBL.out _,HY.out,HSG.out,by have h:=HAL.out;rw [HMA.out]at h;exact h.atStart,HW.out⟩
    case measure=>simp [intOf];omega
   obtain ⟨n,rfl⟩:∃n,m=n+1:=⟨m - 1,by omega⟩
   have hcast:((n+1:Nat):Int)=(n:Int)+1:=by omega
   rw [hcast]
   rw [hcast]at i1 i2
   clear hcast
   obtain ⟨p1,p2,p3,p4⟩:=HW.out.at HY.out (show n+1 < N by omega)
   obtain ⟨q1,q2,q3,q4⟩:=HW.out.at HY.out (show n < N by omega)
   have P1:=zH p1
   have P2:=zH p2
   have Q1:=zH q1
   have Q2:=zH q2
   generalize hgx:gt zs (n+1)=x at*
   generalize hgy:gt zs n=y at*
   have HX:=zH (And.intro hgx hgy)
   obtain ⟨x1,x2⟩:=x
   obtain ⟨y1,y2⟩:=y
   clear hgx hgy p1 p2 q1 q2
   have c1:∀w',Ext W w'→w'.cell? ⟨g,(n+1)*2,none⟩=some (.int .i64 x1):=fun w' h=>h.cell P1.out
   have c2:∀w',Ext W w'→w'.cell? ⟨g,(n+1)*2+1,none⟩=some (.int .i64 x2):=fun w' h=>h.cell P2.out
   have c3:∀w',Ext W w'→w'.cell? ⟨g,n*2,none⟩=some (.int .i64 y1):=fun w' h=>h.cell Q1.out
   have c4:∀w',Ext W w'→w'.cell? ⟨g,n*2+1,none⟩=some (.int .i64 y2):=fun w' h=>h.cell Q2.out
   have i3:(a:Int) < (n:Int)+1:=by omega
   have i4:(0:Int)≤(n:Int):=by omega
   have i5:(n:Int) < (N:Int):=by omega
   have j1:IntKind.i64.wrap ((n:Int)+1 - 1)=(n:Int):=by rw [show (n:Int)+1 - 1=n by omega];exact IntWalk.i64_in _ oM
   have j2:IntKind.i64.wrap (n:Int)=(n:Int):=IntWalk.i64_in _ oM
   cases hle:leS (y1,y2) (x1,x2)
   ·have hz:byZ (x1,x2) (y1,y2) < 0:=eX.2 hle
    go_wp2_with fail
    go_region_held3 (fun w1=>Ext W w1) (first | (with_reducible assumption) | (exact zx aS) | (with_reducible exact zx (zz aS _)) | (with_reducible exact zz aS _) | (exact zt aS aS)) (first | (go_at_call 237;refine (f8 (x1,x2) (y1,y2) _).mono ?_;rintro e w1 ⟨rfl,hx⟩))
    go_wp2_with fail
    have hbz:Below B w1 w1:=Below.refl _ _
    have HW1:=zH (HW.out.ext (by with_reducible assumption:Ext W w1))
    have HBL1:=zH (HBL.out.trans (Below.mono (by with_reducible assumption:Ext W w1) (by have:=HBL.out.size;omega)))
    clear hbz c1 c2 c3 c4 hs0
    obtain ⟨p1,p2,p3,p4⟩:=HW1.out.at HY.out (show n+1 < N by omega)
    obtain ⟨q1,q2,q3,q4⟩:=HW1.out.at HY.out (show n < N by omega)
    rw [HX.out.1]at p1 p2
    rw [HX.out.2]at q1 q2
    simp only at p1 p2 q1 q2
    have k1:¬(n+1)*2=n*2:=by omega
    have k2:¬n*2=(n+1)*2:=by omega
    have k3:¬(n+1)*2=n*2+1:=by omega
    have k4:¬n*2+1=(n+1)*2:=by omega
    have k5:¬(n+1)*2+1=n*2:=by omega
    have k6:¬n*2=(n+1)*2+1:=by omega
    have HAL2:=zH (HAL.out.step (by have:=HY.out;omega) oM oM (by rw [HX.out.1,HX.out.2,cA];have:=hle;rw [Bool.eq_false_iff,ne_eq,cA]at this;simp only at this⊢;omega))
    clear hz hle HW HBL P1 P2 Q1 Q2
    go_region
    go_wp2_with fail
    go_roundw
    case rel=>
     refine ⟨n,eK zs (n+1) n,by go_num,by omega,by omega,((((HBL1.out.drew).setCell hBg _).setCell hBg _).setCell hBg _).setCell hBg _,by rw [dx];exact HY.out,HSG.out.trans (Seg.swap (by have:=HY.out;omega) ⟨by omega,by omega⟩ ⟨by omega,by omega⟩),HAL2.out,?_⟩
     have h1:=AM (w:=w1.drew) HW1.out HY.out (n+1) y1 y2
     have h2:=AM h1 (by simp [HY.out]) n x1 x2
     rw [eK,HX.out.1,HX.out.2]
     exact h2
    case measure=>simp [intOf]
   ·have hz:¬byZ (x1,x2) (y1,y2) < 0:=fun h=>by rw [eX.1 h]at hle;cases hle
    have hz1:0≤byZ (x1,x2) (y1,y2):=by omega
    go_wp2_with fail
    go_region_held3 (fun w1=>Ext W w1) (first | (with_reducible assumption) | (exact zx aS) | (with_reducible exact zx (zz aS _)) | (with_reducible exact zz aS _) | (exact zt aS aS)) (first | (go_at_call 237;refine (f8 (x1,x2) (y1,y2) _).mono ?_;rintro e w1 ⟨rfl,hx⟩))
    go_wp2_with fail
    go_roundw
    case rel=>exact ⟨k+1,zs,by go_num,by omega,by omega,HBL.out.trans (Below.mono (by assumption) (by have:=HBL.out.size;omega)),HY.out,HSG.out,HAL.out.stop oM (by rw [HX.out.1,HX.out.2];exact hle),HW.out.ext (by assumption)⟩
    case measure=>simp [intOf];omega
theorem gn (B g N cap a b n:Nat) (xs:List (Int×Int)) (w:World) (x y z:Int) (hx:x=a) (hy:y=b) (hz:z=n) (hBg:B≤g) (hN:xs.length=N) (hN2:N≤4000000000000) (hab:a+n≤b) (hb:b+n≤N)
  (ho:OwnS w B (.slice (some ⟨g,0,none⟩) N cap) xs):
  Calls Tryz.prog 244 #[.slice (some ⟨g,0,none⟩) N cap,.int .i64 x,.int .i64 y,.int .i64 z,.func (.func 237) #[] #[]] w
   (cw w B g N cap (fun ys=>ys=dB xs a b n)):=by
 subst hx hy hz
 exact mS B g N cap a b n xs w hBg hN hN2 hab hb ho
def yt (w:World) (B g N cap a m b:Nat) (xs:List (Int×Int)) (vi vj:Value) (wr:World):Prop:=
 ∃(i j:Nat) (zs:List (Int×Int)),vi= .int .i64 i∧vj= .int .i64 j∧1≤i∧1≤j∧a+i≤m∧m+j≤b∧Below B w wr∧zs.length=N∧Seg a b xs zs∧OwnS wr B (.slice (some ⟨g,0,none⟩) N cap) zs∧
  (∀ys,Rot (m - i) m (m+j) zs ys→Rot a m b xs ys)
theorem dC (B g N cap a m b:Nat) (xs:List (Int×Int)) (w:World) (hBg:B≤g) (hN:xs.length=N) (hN2:N≤4000000000000) (ham:a < m) (hmb:m < b) (hb:b≤N)
  (ho:OwnS w B (.slice (some ⟨g,0,none⟩) N cap) xs):
  Calls Tryz.prog 243 #[.slice (some ⟨g,0,none⟩) N cap,.int .i64 a,.int .i64 m,.int .i64 b,.func (.func 237) #[] #[]] w
   (cw w B g N cap (fun ys=>Seg a b xs ys∧Rot a m b xs ys)):=by
 have HO:=zH ho
 have HN:=zH hN
 clear ho hN
 have i1:(a:Int) < (m:Int):=by omega
 have i2:(m:Int) < (b:Int):=by omega
 have i3:(b:Int)≤4000000000000:=by omega
 have i4:(0:Int)≤(a:Int):=by omega
 go_enter Tryz.func243,Tryz.ntmps243
 go_wp2_with fail
 go_loopw [10,11] (fun i j wr=>yt w B g N cap a m b xs i j wr) (fun i j _=>(intOf i).toNat+(intOf j).toNat)
 case atStart=>exact ⟨m - a,b - m,xs,by congr 1;omega,by congr 1;omega,by omega,by omega,by omega,by omega,Below.refl _ _,HN.out,AF _ _ _,HO.out,fun ys h=>by rw [show m - (m - a)=a by omega,show m+(b - m)=b by omega]at h;exact h⟩
 case round=>
  obtain ⟨i,j,zs,rfl,rfl,hi1,hj1,hai,hjb,hbel,hzl,hseg,hown,hrot⟩:=hrel
  have HW:=zH hown
  have HBL:=zH hbel
  have HY:=zH hzl
  have HSG:=zH hseg
  have HR:=zH hrot
  clear hown hbel hzl hseg hrot HO HN
  have k1:(a:Int)+(i:Int)≤(m:Int):=by omega
  have k2:(m:Int)+(j:Int)≤(b:Int):=by omega
  have k3:(1:Int)≤(i:Int):=by omega
  have k4:(1:Int)≤(j:Int):=by omega
  by_cases hij:i=j
  ·subst hij
   go_wp2_with fail
   refine (gn B g N cap (m - i) m i zs _ _ _ _ oM rfl rfl hBg HY.out hN2 oM oM HW.out).mono ?_
   rintro e w1 ⟨rfl,hb1,ys,hyl,rfl,ho1⟩
   have H1:=zH ho1
   have H2:=zH hyl
   have H3:=zH hb1
   clear ho1 hyl hb1
   go_wp2_with fail
   go_end0
   exact ⟨rfl,HBL.out.trans H3.out,_,H2.out,⟨HSG.out.trans (iZ (by have:=HY.out;omega) oM oM oM),HR.out _ (Rot.last oM (by have:=HY.out;omega))⟩,H1.out⟩
  have hd:((i:Int) !=(j:Int))=true:=by simp;omega
  by_cases hlt:j < i
  ·have k5:(j:Int) < (i:Int):=by omega
   clear hij
   go_wp2_with fail
   refine (gn B g N cap (m - i) m j zs _ _ _ _ oM rfl rfl hBg HY.out hN2 oM oM HW.out).mono ?_
   rintro e w1 ⟨rfl,hb1,ys,hyl,rfl,ho1⟩
   have H1:=zH ho1
   have H2:=zH hyl
   have H3:=zH (HBL.out.trans hb1)
   clear ho1 hyl hb1
   go_wp2_with fail
   go_roundw
   case rel=>exact ⟨i - j,j,_,by congr 1;omega,rfl,by omega,by omega,by omega,by omega,H3.out,H2.out,HSG.out.trans (iZ (by have:=HY.out;omega) oM oM oM),H1.out,fun ys h=>HR.out ys (Rot.left oM hlt (by have:=HY.out;omega) h)⟩
   case measure=>simp [intOf];omega
  ·have k5:(i:Int) < (j:Int):=by omega
   have hlt2:i < j:=by omega
   clear hij hlt
   go_wp2_with fail
   refine (gn B g N cap (m - i) (m+j - i) i zs _ _ _ _ oM oM rfl hBg HY.out hN2 oM oM HW.out).mono ?_
   rintro e w1 ⟨rfl,hb1,ys,hyl,rfl,ho1⟩
   have H1:=zH ho1
   have H2:=zH hyl
   have H3:=zH (HBL.out.trans hb1)
   clear ho1 hyl hb1
   go_wp2_with fail
   go_roundw
   case rel=>exact ⟨i,j - i,_,rfl,by congr 1;omega,by omega,by omega,by omega,by omega,H3.out,H2.out,HSG.out.trans (iZ (by have:=HY.out;omega) oM oM oM),H1.out,fun ys h=>HR.out ys (Rot.right oM hlt2 (by have:=HY.out;omega) h)⟩
   case measure=>simp [intOf];omega
end Go.Proofs.YtphpppjfogpohaaGreat
namespace Go.Proofs.YtphpppjfogpohaaGreat
theorem jP {x y z:Int×Int} (h:leS x y=true) (k:leS z y=false):leS z x=false:=by
 rw [Bool.eq_false_iff,ne_eq,cA]at*;omega
theorem ia {x y z:Int×Int} (h:leS y x=false) (k:leS y z=true):leS z x=false:=by
 rw [Bool.eq_false_iff,ne_eq,cA]at*;omega
theorem iH {x y:Int×Int} (h:leS y x=false):leS x y=true:=rS (by rw [h];exact Bool.false_ne_true)
theorem Rot.id1 {a b:Nat} (xs:List (Int×Int)):Rot a a b xs xs:=fun p=>by (repeat' split) <;>first | rfl | exact congrArg _ oM
theorem Rot.id2 {a b:Nat} (xs:List (Int×Int)):Rot a b b xs xs:=fun p=>by (repeat' split) <;>first | rfl | (exfalso;omega) | exact congrArg _ oM
theorem Rot.up {a k:Nat} {xs zs:List (Int×Int)} (h:Rot a (a+1) (k+1) xs zs) (hak:a≤k) (hk:k+1 < zs.length):Rot a (a+1) (k+2) xs (eK zs k (k+1)):=by
 intro p
 rw [gP oM hk,h p,h k,h (k+1)]
 (repeat' split) <;>first | (exfalso;omega) | rfl | exact congrArg _ oM
theorem Rot.down {m k:Nat} {xs zs:List (Int×Int)} (h:Rot (k+1) m (m+1) xs zs) (hkm:k+1≤m) (hm:m < zs.length):Rot k m (m+1) xs (eK zs (k+1) k):=by
 intro p
 rw [gP oM oM,h p,h k,h (k+1)]
 (repeat' split) <;>first | (exfalso;omega) | rfl | exact congrArg _ oM
theorem tm {a i b:Nat} {xs ys:List (Int×Int)} (h:Rot a (a+1) i xs ys) (hi:a+1≤i) (hib:i≤b) (hB:Ordered (a+1) b xs) (h1:∀p,a+1≤p→p < i→leS (gt xs a) (gt xs p)=false)
  (h2:∀p,i≤p→p < b→leS (gt xs a) (gt xs p)=true):Ordered a b ys:=by
 intro p q hp hpq hq
 rw [h p,h q]
 have e:∀x,x - (i - (a+1))=a→gt xs (x - (i - (a+1)))=gt xs a:=fun x e=>by rw [e]
 (repeat' split) <;>first
  | (exfalso;omega)
  | exact hB _ _ oM oM oM
  | (rw [e q oM];exact iH (h1 _ oM oM))
  | (rw [e p oM];exact h2 _ oM oM)
theorem vd {a i m:Nat} {xs ys:List (Int×Int)} (h:Rot i m (m+1) xs ys) (hi:a≤i) (him:i≤m) (hA:Ordered a m xs) (h1:∀p,a≤p→p < i→leS (gt xs p) (gt xs m)=true)
  (h2:∀p,i≤p→p < m→leS (gt xs p) (gt xs m)=false):Ordered a (m+1) ys:=by
 intro p q hp hpq hq
 rw [h p,h q]
 have e:∀x,x+(m - i)=m→gt xs (x+(m - i))=gt xs m:=fun x e=>by rw [e]
 (repeat' split) <;>first
  | (exfalso;omega)
  | exact hA _ _ oM oM oM
  | (rw [e q oM];exact h1 _ oM oM)
  | (rw [e p oM];exact iH (h2 _ oM oM))
structure Split (a s d e b:Nat) (zs:List (Int×Int)):Prop where
 o1:Ordered a s zs
 o2:Ordered s d zs
 o3:Ordered d e zs
 o4:Ordered e b zs
 cross:∀p q,a≤p→p < d→d≤q→q < b→leS (gt zs p) (gt zs q)=true
theorem mj {a s m e b d:Nat} {xs zs:List (Int×Int)} (h:Rot s m e xs zs) (has:a≤s) (hsm:s≤m) (hme:m≤e) (heb:e≤b) (hd:d=s+(e - m)) (hA:Ordered a m xs) (hB:Ordered m b xs)
  (h1:a < s→e < b→leS (gt xs (s - 1)) (gt xs e)=true) (h2:s < m→m < e→leS (gt xs (e - 1)) (gt xs s)=true):Split a s d e b zs:=by
 have c1:∀p q,a≤p→p < s→e≤q→q < b→leS (gt xs p) (gt xs q)=true:=fun p q k1 k2 k3 k4=>
  cD _ _ _ (hA.le k1 (by omega:p≤s - 1) oM) (cD _ _ _ (h1 oM oM) (hB.le oM k3 k4))
 have c2:∀p q,m≤p→p < e→s≤q→q < m→leS (gt xs p) (gt xs q)=true:=fun p q k1 k2 k3 k4=>
  cD _ _ _ (hB.le k1 (by omega:p≤e - 1) oM) (cD _ _ _ (h2 oM oM) (hA.le oM k3 k4))
 subst hd
 refine ⟨?_,?_,?_,?_,?_⟩
 ·intro p q k1 k2 k3
  rw [h p,h q,if_pos oM,if_pos oM]
  exact hA p q k1 k2 oM
 ·intro p q k1 k2 k3
  rw [h p,h q,if_neg oM,if_pos oM,if_neg oM,if_pos oM]
  exact hB _ _ oM oM oM
 ·intro p q k1 k2 k3
  rw [h p,h q,if_neg oM,if_neg oM,if_neg oM,if_neg oM]
  exact hA _ _ oM oM oM
 ·intro p q k1 k2 k3
  rw [h p,h q,if_pos oM,if_pos oM]
  exact hB p q oM k2 k3
 ·intro p q k1 k2 k3 k4
  rw [h p,h q]
  (repeat' split) <;>first
   | (exfalso;omega)
   | exact c1 _ _ oM oM oM oM
   | exact c2 _ _ oM oM oM oM
   | exact hA _ _ oM oM oM
   | exact hB _ _ oM oM oM
theorem Split.done {a s d e b:Nat} {zs ls rs:List (Int×Int)} (h:Split a s d e b zs) (has:a≤s) (hsd:s≤d) (hde:d≤e) (heb:e≤b) (hl:Seg a d zs ls) (hol:Ordered a d ls) (hr:Seg d b ls rs) (hor:Ordered d b rs):Seg a b zs rs∧Ordered a b rs:=by
 refine ⟨(hl.mono (Nat.le_refl _) oM).trans (hr.mono oM (Nat.le_refl _)),Ordered.join (m:=d) (hol.congr fun i h1 h2=>hr.out i oM) hor fun i j h1 h2 h3 h4=> ?_⟩
 rw [hr.out i oM]
 obtain ⟨k,k1,k2,e1⟩:=hl.sub i h1 h2
 obtain ⟨l,l1,l2,e2⟩:=hr.sub j h3 h4
 rw [e1,e2,hl.out l oM]
 exact h.cross k l k1 k2 l1 l2
end Go.Proofs.YtphpppjfogpohaaGreat
namespace Go.Proofs.YtphpppjfogpohaaGreat
open Go.RowKit
def xg (w:World) (a m b:Nat) (xs:List (Int×Int)) (vi vj:Value) (wr:World):Prop:=
 ∃(i j:Nat),vi= .int .i64 i∧vj= .int .i64 j∧m≤i∧i≤j∧j≤b∧Ext w wr∧(∀p,m≤p→p < i→leS (gt xs a) (gt xs p)=false)∧(∀p,j≤p→p < b→leS (gt xs a) (gt xs p)=true)
def zZ (w:World) (B g N cap a b i:Nat) (xs:List (Int×Int)) (vk:Value) (wr:World):Prop:=
 ∃(k:Nat) (zs:List (Int×Int)),vk= .int .i64 k∧a≤k∧k+1≤i∧Below B w wr∧zs.length=N∧Seg a b xs zs∧Rot a (a+1) (k+1) xs zs∧OwnS wr B (.slice (some ⟨g,0,none⟩) N cap) zs
theorem ve (B g N cap a m b:Nat) (xs:List (Int×Int)) (w:World) (hB:B≤w.heap.size) (hBg:B≤g) (hN:xs.length=N) (hN2:N≤4000000000000) (ham:m=a+1) (hmb:m < b) (hb:b≤N)
  (hoB:Ordered m b xs) (ho:OwnS w B (.slice (some ⟨g,0,none⟩) N cap) xs):
  Calls Tryz.prog 242 #[.slice (some ⟨g,0,none⟩) N cap,.int .i64 a,.int .i64 m,.int .i64 b,.func (.func 237) #[] #[]] w
   (cw w B g N cap (fun ys=>Seg a b xs ys∧Ordered a b ys)):=by
 have HO:=zH ho
 have HN:=zH hN
 have HAM:=zH ham
 have HOB:=zH hoB
 clear ho hN hoB
 have i1:(m:Int) - (a:Int)=1:=by omega
 have i2:(m:Int) < (b:Int):=by omega
 have i3:(b:Int)≤4000000000000:=by omega
 have i4:(0:Int)≤(a:Int):=by omega
 have i5:(a:Int) < (m:Int):=by omega
 have i6:(b:Int)≤(N:Int):=by omega
 clear ham
 go_enter Tryz.func242,Tryz.ntmps242
 go_wp2_with fail
 go_loopw [10,11] (fun i j wr=>xg w a m b xs i j wr) (fun i j _=>(intOf j).toNat - (intOf i).toNat)
 case atStart=>exact ⟨m,b,rfl,rfl,by omega,by omega,by omega,zo _,fun p h1 h2=>by omega,fun p h1 h2=>by omega⟩
 case round=>
  obtain ⟨i,j,rfl,rfl,hmi,hij,hjb,hext,hlo,hhi⟩:=hrel
  have HLO:=zH hlo
  have HHI:=zH hhi
  have HW:=zH (HO.out.ext hext)
  have HE:=zH hext
  clear hlo hhi hext
  by_cases hlt:i < j
  ·obtain ⟨h,hh⟩:∃h,h=(i+j)/2:=⟨_,rfl⟩
   have k1:(i:Int)≤(h:Int):=by omega
   have k2:(h:Int) < (j:Int):=by omega
   have k3:(i:Int) < (j:Int):=by omega
   have k4:(m:Int)≤(i:Int):=by omega
   have k5:(j:Int)≤(b:Int):=by omega
   have hm:((i:Int)+(j:Int))/2=(h:Int):=by omega
   have HH:=zH hh
   clear hh
   go_wp2_with fail
   clear hm
   obtain ⟨W,rfl⟩:∃W:World,W=wr:=⟨_,rfl⟩
   have hs0:Ext W W:=zo W
   obtain ⟨p1,p2, -, -⟩:=HW.out.at HN.out (show h < N by omega)
   obtain ⟨q1,q2, -, -⟩:=HW.out.at HN.out (show a < N by omega)
   generalize hgx:gt xs h=x at*
   generalize hgy:gt xs a=y at*
   have HX:=zH (And.intro hgx hgy)
   obtain ⟨x1,x2⟩:=x
   obtain ⟨y1,y2⟩:=y
   have P1:=zH p1
   have P2:=zH p2
   have Q1:=zH q1
   have Q2:=zH q2
   clear hgx hgy p1 p2 q1 q2
   have c1:∀w',Ext W w'→w'.cell? ⟨g,h*2,none⟩=some (.int .i64 x1):=fun w' h=>h.cell P1.out
   have c2:∀w',Ext W w'→w'.cell? ⟨g,h*2+1,none⟩=some (.int .i64 x2):=fun w' h=>h.cell P2.out
   have c3:∀w',Ext W w'→w'.cell? ⟨g,a*2,none⟩=some (.int .i64 y1):=fun w' h=>h.cell Q1.out
   have c4:∀w',Ext W w'→w'.cell? ⟨g,a*2+1,none⟩=some (.int .i64 y2):=fun w' h=>h.cell Q2.out
   have k6:(0:Int)≤(h:Int):=by omega
   have k7:(h:Int) < (N:Int):=by omega
   have k8:(a:Int) < (N:Int):=by omega
   cases hle:leS (y1,y2) (x1,x2)
   ·have hz:byZ (x1,x2) (y1,y2) < 0:=eX.2 hle
    go_region_held3 (fun w1=>Ext W w1) (first | (with_reducible assumption) | (exact zx aS) | (with_reducible exact zx (zz aS _)) | (with_reducible exact zz aS _) | (exact zt aS aS)) (first | (go_at_call 237;refine (f8 (x1,x2) (y1,y2) _).mono ?_;rintro e w1 ⟨rfl,hx⟩))
    go_wp2_with fail
    go_roundw
    case rel=>exact ⟨h+1,j,by go_num,rfl,by omega,by omega,by omega,HE.out.trans aS,fun p h1 h2=>by
     rcases Nat.lt_or_ge p h with h3 | h3
     ·exact jP (y:=gt xs h) (HOB.out p h h1 h3 oM) (by rw [HX.out.1,HX.out.2];exact hle)
     ·obtain rfl:p=h:=by omega
      rw [HX.out.1,HX.out.2];exact hle,by rw [HX.out.2];exact HHI.out⟩
    case measure=>simp [intOf];omega
   ·have hz:¬byZ (x1,x2) (y1,y2) < 0:=fun h=>by rw [eX.1 h]at hle;cases hle
    have hz1:0≤byZ (x1,x2) (y1,y2):=by omega
    go_region_held3 (fun w1=>Ext W w1) (first | (with_reducible assumption) | (exact zx aS) | (with_reducible exact zx (zz aS _)) | (with_reducible exact zz aS _) | (exact zt aS aS)) (first | (go_at_call 237;refine (f8 (x1,x2) (y1,y2) _).mono ?_;rintro e w1 ⟨rfl,hx⟩))
    go_wp2_with fail
    go_roundw
    case rel=>exact ⟨i,h,rfl,rfl,by omega,by omega,by omega,HE.out.trans aS,(by rw [HX.out.2];exact HLO.out),fun p h1 h2=>
     cD _ _ _ (show leS (gt xs a) (gt xs h)=true by rw [HX.out.1,HX.out.2];exact hle) (HOB.out.le oM h1 h2)⟩
    case measure=>simp [intOf];omega
  ·have k3:(j:Int)≤(i:Int):=by omega
   obtain rfl:i=j:=by omega
   go_wp2_with fail
   go_loopw [13] (fun k wr=>zZ w B g N cap a b i xs k wr) (fun k _=>i - (intOf k).toNat)
   case atStart=>exact ⟨a,xs,rfl,by omega,by omega,Below.mono HE.out hB,HN.out,AF _ _ _,Rot.id2 xs,HW.out⟩
   case round=>
    clear HW HE HO
    obtain ⟨k,zs,rfl,hak,hki,hbel,hzl,hseg,hrot,hown⟩:=hrel
    have HW:=zH hown
    have HBL:=zH hbel
    have HY:=zH hzl
    have HSG:=zH hseg
    have HR:=zH hrot
    clear hown hbel hzl hseg hrot
    have k4:(i:Int)≤(b:Int):=by omega
    have k5:(0:Int)≤(k:Int):=by omega
    have k6:(m:Int)≤(i:Int):=by omega
    by_cases hend:i=k+1
    ·have HEQ:=zH hend
     have k7:(i:Int) - 1≤(k:Int):=by omega
     clear hend
     go_wp2_with fail
     go_end0
     refine ⟨rfl,HBL.out,zs,HY.out,⟨HSG.out,?_⟩,HW.out⟩
     have hr:=HR.out
     rw [←HEQ.out]at hr
     have hm:=HAM.out
     subst hm
     exact tm hr oM oM HOB.out HLO.out HHI.out
    have k7:(k:Int) < (i:Int) - 1:=by omega
    obtain ⟨p1,p2,p3,p4⟩:=HW.out.at HY.out (show k < N by omega)
    obtain ⟨q1,q2,q3,q4⟩:=HW.out.at HY.out (show k+1 < N by omega)
    generalize hgx:gt zs k=x at*
    generalize hgy:gt zs (k+1)=y at*
    have HX:=zH (And.intro hgx hgy)
    clear hgx hgy
    obtain ⟨x1,x2⟩:=x
    obtain ⟨y1,y2⟩:=y
    simp only at p1 p2 q1 q2
    have k8:(k:Int) < (N:Int):=by omega
    have k9:(k:Int)+1 < (N:Int):=by omega
    have j0:(N:Int)≤4000000000000:=by omega
    have j1:IntKind.i64.wrap ((k:Int)+1)=(k:Int)+1:=IntWalk.i64_in _ oM
    have j2:¬(k+1)*2=k*2:=by omega
    have j3:¬k*2=(k+1)*2:=by omega
    have j4:¬(k+1)*2=k*2+1:=by omega
    have j5:¬k*2+1=(k+1)*2:=by omega
    have j6:¬(k+1)*2+1=k*2:=by omega
    have j7:¬k*2=(k+1)*2+1:=by omega
    have HR2:=zH (HR.out.up hak (by have:=HY.out;omega))
    have HEND:=zH hend
    clear hend
    go_wp2_with fail
    go_region
    go_wp2_with fail
    go_roundw
    case rel=>
     refine ⟨k+1,eK zs k (k+1),by go_num,by omega,by have:=HEND.out;omega,((((HBL.out.drew).setCell hBg _).setCell hBg _).setCell hBg _).setCell hBg _,by rw [dx];exact HY.out,HSG.out.trans (Seg.swap (by have:=HY.out;omega) ⟨by omega,by omega⟩ ⟨by omega,by omega⟩),HR2.out,?_⟩
     have h1:=AM (w:=wr.drew) HW.out HY.out k y1 y2
     have h2:=AM h1 (by simp [HY.out]) (k+1) x1 x2
     rw [eK,HX.out.1,HX.out.2]
     exact h2
    case measure=>simp [intOf];omega
def xi (w:World) (a m b:Nat) (xs:List (Int×Int)) (vi vj:Value) (wr:World):Prop:=
 ∃(i j:Nat),vi= .int .i64 i∧vj= .int .i64 j∧a≤i∧i≤j∧j≤m∧Ext w wr∧(∀p,a≤p→p < i→leS (gt xs p) (gt xs m)=true)∧(∀p,j≤p→p < m→leS (gt xs p) (gt xs m)=false)
def z6 (w:World) (B g N cap a m b i:Nat) (xs:List (Int×Int)) (vk:Value) (wr:World):Prop:=
 ∃(k:Nat) (zs:List (Int×Int)),vk= .int .i64 k∧i≤k∧k≤m∧Below B w wr∧zs.length=N∧Seg a b xs zs∧Rot k m (m+1) xs zs∧OwnS wr B (.slice (some ⟨g,0,none⟩) N cap) zs
theorem vf (B g N cap a m b:Nat) (xs:List (Int×Int)) (w:World) (hB:B≤w.heap.size) (hBg:B≤g) (hN:xs.length=N) (hN2:N≤4000000000000) (ham:a+1 < m) (hmb:b=m+1) (hb:b≤N)
  (hoA:Ordered a m xs) (ho:OwnS w B (.slice (some ⟨g,0,none⟩) N cap) xs):
  Calls Tryz.prog 242 #[.slice (some ⟨g,0,none⟩) N cap,.int .i64 a,.int .i64 m,.int .i64 b,.func (.func 237) #[] #[]] w
   (cw w B g N cap (fun ys=>Seg a b xs ys∧Ordered a b ys)):=by
 have HO:=zH ho
 have HN:=zH hN
 have HMB:=zH hmb
 have HOA:=zH hoA
 clear ho hN hoA
 have i1:((m:Int) - (a:Int)==1)=false:=by simp;omega
 have i2:(b:Int) - (m:Int)=1:=by omega
 have i3:(b:Int)≤4000000000000:=by omega
 have i4:(0:Int)≤(a:Int):=by omega
 have i5:(a:Int) < (m:Int):=by omega
 have i6:(b:Int)≤(N:Int):=by omega
 have i7:(m:Int) < (b:Int):=by omega
 have i8:(m:Int) < (N:Int):=by omega
 clear hmb
 go_enter Tryz.func242,Tryz.ntmps242
 go_wp2_with fail
 go_loopw [14,15] (fun i j wr=>xi w a m b xs i j wr) (fun i j _=>(intOf j).toNat - (intOf i).toNat)
 case atStart=>exact ⟨a,m,rfl,rfl,by omega,by omega,by omega,zo _,fun p h1 h2=>by omega,fun p h1 h2=>by omega⟩
 case round=>
  obtain ⟨i,j,rfl,rfl,hmi,hij,hjb,hext,hlo,hhi⟩:=hrel
  have HLO:=zH hlo
  have HHI:=zH hhi
  have HW:=zH (HO.out.ext hext)
  have HE:=zH hext
  clear hlo hhi hext
  by_cases hlt:i < j
  ·obtain ⟨h,hh⟩:∃h,h=(i+j)/2:=⟨_,rfl⟩
   have k1:(i:Int)≤(h:Int):=by omega
   have k2:(h:Int) < (j:Int):=by omega
   have k3:(i:Int) < (j:Int):=by omega
   have k4:(a:Int)≤(i:Int):=by omega
   have k5:(j:Int)≤(m:Int):=by omega
   have hm:((i:Int)+(j:Int))/2=(h:Int):=by omega
   have HH:=zH hh
   clear hh
   go_wp2_with fail
   clear hm
   obtain ⟨W,rfl⟩:∃W:World,W=wr:=⟨_,rfl⟩
   have hs0:Ext W W:=zo W
   obtain ⟨p1,p2, -, -⟩:=HW.out.at HN.out (show m < N by omega)
   obtain ⟨q1,q2, -, -⟩:=HW.out.at HN.out (show h < N by omega)
   generalize hgx:gt xs m=x at*
   generalize hgy:gt xs h=y at*
   have HX:=zH (And.intro hgx hgy)
   obtain ⟨x1,x2⟩:=x
   obtain ⟨y1,y2⟩:=y
   have P1:=zH p1
   have P2:=zH p2
   have Q1:=zH q1
   have Q2:=zH q2
   clear hgx hgy p1 p2 q1 q2
   have c1:∀w',Ext W w'→w'.cell? ⟨g,m*2,none⟩=some (.int .i64 x1):=fun w' h=>h.cell P1.out
   have c2:∀w',Ext W w'→w'.cell? ⟨g,m*2+1,none⟩=some (.int .i64 x2):=fun w' h=>h.cell P2.out
   have c3:∀w',Ext W w'→w'.cell? ⟨g,h*2,none⟩=some (.int .i64 y1):=fun w' h=>h.cell Q1.out
   have c4:∀w',Ext W w'→w'.cell? ⟨g,h*2+1,none⟩=some (.int .i64 y2):=fun w' h=>h.cell Q2.out
   have k6:(0:Int)≤(h:Int):=by omega
   have k7:(h:Int) < (N:Int):=by omega
   have k8:(0:Int)≤(m:Int):=by omega
   cases hle:leS (y1,y2) (x1,x2)
   ·have hz:byZ (x1,x2) (y1,y2) < 0:=eX.2 hle
    go_region_held3 (fun w1=>Ext W w1) (first | (with_reducible assumption) | (exact zx aS) | (with_reducible exact zx (zz aS _)) | (with_reducible exact zz aS _) | (exact zt aS aS)) (first | (go_at_call 237;refine (f8 (x1,x2) (y1,y2) _).mono ?_;rintro e w1 ⟨rfl,hx⟩))
    go_wp2_with fail
    go_roundw
    case rel=>exact ⟨i,h,rfl,rfl,by omega,by omega,by omega,HE.out.trans aS,(by rw [HX.out.1];exact HLO.out),fun p h1 h2=>
     ia (y:=gt xs h) (by rw [HX.out.1,HX.out.2];exact hle) (HOA.out.le oM h1 h2)⟩
    case measure=>simp [intOf];omega
   ·have hz:¬byZ (x1,x2) (y1,y2) < 0:=fun h=>by rw [eX.1 h]at hle;cases hle
    have hz1:0≤byZ (x1,x2) (y1,y2):=by omega
    have hz2:decide (byZ (x1,x2) (y1,y2) < 0)=false:=by simp;omega
    clear hz
    go_region_held3 (fun w1=>Ext W w1) (first | (with_reducible assumption) | (exact zx aS) | (with_reducible exact zx (zz aS _)) | (with_reducible exact zz aS _) | (exact zt aS aS)) (first | (go_at_call 237;refine (f8 (x1,x2) (y1,y2) _).mono ?_;rintro e w1 ⟨rfl,hx⟩))
    go_wp2_with fail
    go_roundw
    case rel=>exact ⟨h+1,j,by go_num,rfl,by omega,by omega,by omega,HE.out.trans aS,fun p h1 h2=>
     cD _ _ _ (HOA.out.le h1 (by omega:p≤h) oM) (show leS (gt xs h) (gt xs m)=true by rw [HX.out.1,HX.out.2];exact hle),by rw [HX.out.1];exact HHI.out⟩
    case measure=>simp [intOf];omega
  ·have k3:(j:Int)≤(i:Int):=by omega
   obtain rfl:i=j:=by omega
   go_wp2_with fail
   go_loopw [17] (fun k wr=>z6 w B g N cap a m b i xs k wr) (fun k _=>(intOf k).toNat)
   case atStart=>exact ⟨m,xs,rfl,by omega,by omega,Below.mono HE.out hB,HN.out,AF _ _ _,Rot.id1 xs,HW.out⟩
   case round=>
    clear HW HE HO
    obtain ⟨k,zs,rfl,hki,hkm,hbel,hzl,hseg,hrot,hown⟩:=hrel
    have HW:=zH hown
    have HBL:=zH hbel
    have HY:=zH hzl
    have HSG:=zH hseg
    have HR:=zH hrot
    clear hown hbel hzl hseg hrot
    have k4:(a:Int)≤(i:Int):=by omega
    have k5:(0:Int)≤(i:Int):=by omega
    have k6:(k:Int)≤(m:Int):=by omega
    by_cases hend:k=i
    ·subst hend
     go_wp2_with fail
     go_end0
     refine ⟨rfl,HBL.out,zs,HY.out,⟨HSG.out,?_⟩,HW.out⟩
     have hm:=HMB.out
     subst hm
     exact vd HR.out oM oM HOA.out HLO.out HHI.out
    obtain ⟨n,rfl⟩:∃n,k=n+1:=⟨k - 1,by omega⟩
    have hcast:((n+1:Nat):Int)=(n:Int)+1:=by omega
    rw [hcast]
    rw [hcast]at k6
    have k7:(i:Int) < (n:Int)+1:=by omega
    clear hcast
    obtain ⟨p1,p2,p3,p4⟩:=HW.out.at HY.out (show n+1 < N by omega)
    obtain ⟨q1,q2,q3,q4⟩:=HW.out.at HY.out (show n < N by omega)
    generalize hgx:gt zs (n+1)=x at*
    generalize hgy:gt zs n=y at*
    have HX:=zH (And.intro hgx hgy)
    clear hgx hgy
    obtain ⟨x1,x2⟩:=x
    obtain ⟨y1,y2⟩:=y
    simp only at p1 p2 q1 q2
    have k8:(n:Int) < (N:Int):=by omega
    have k9:(n:Int)+1 < (N:Int):=by omega
    have j0:(N:Int)≤4000000000000:=by omega
    have j8:(0:Int)≤(n:Int):=by omega
    have j1:IntKind.i64.wrap ((n:Int)+1 - 1)=(n:Int):=by rw [show (n:Int)+1 - 1=n by omega];exact IntWalk.i64_in _ oM
    have j9:IntKind.i64.wrap (n:Int)=(n:Int):=IntWalk.i64_in _ oM
    have j2:¬(n+1)*2=n*2:=by omega
    have j3:¬n*2=(n+1)*2:=by omega
    have j4:¬(n+1)*2=n*2+1:=by omega
    have j5:¬n*2+1=(n+1)*2:=by omega
    have j6:¬(n+1)*2+1=n*2:=by omega
    have j7:¬n*2=(n+1)*2+1:=by omega
    have HR2:=zH (HR.out.down oM (by have:=HY.out;omega))
    have HEND:=zH hend
    clear hend
    go_wp2_with fail
    go_region
    go_wp2_with fail
    go_roundw
    case rel=>
     refine ⟨n,eK zs (n+1) n,by go_num,by have:=HEND.out;omega,by omega,((((HBL.out.drew).setCell hBg _).setCell hBg _).setCell hBg _).setCell hBg _,by rw [dx];exact HY.out,HSG.out.trans (Seg.swap (by have:=HY.out;omega) ⟨by omega,by omega⟩ ⟨by omega,by omega⟩),HR2.out,?_⟩
     have h1:=AM (w:=wr.drew) HW.out HY.out (n+1) y1 y2
     have h2:=AM h1 (by simp [HY.out]) n x1 x2
     rw [eK,HX.out.1,HX.out.2]
     exact h2
    case measure=>simp [intOf]
def sf (w:World) (s0 r0 p:Nat) (xs:List (Int×Int)) (vi vj:Value) (wr:World):Prop:=
 ∃(i j:Nat),vi= .int .i64 i∧vj= .int .i64 j∧s0≤i∧i≤j∧j≤r0∧Ext w wr∧(∀c,s0≤c→c < i→leS (gt xs c) (gt xs (p - c))=true)∧(∀c,j≤c→c < r0→leS (gt xs c) (gt xs (p - c))=false)
theorem Rot.same {s m e:Nat} (h:s=m∨e=m) (xs:List (Int×Int)):Rot s m e xs xs:=by
 rcases h with h | h
 ·subst h;exact Rot.id1 xs
 ·subst h;exact Rot.id2 xs
def jx (B g N cap K:Nat):Prop:=∀(a m b:Nat) (xs:List (Int×Int)) (w:World),b - a < K→B≤w.heap.size→xs.length=N→a < m→m < b→b≤N→Ordered a m xs→Ordered m b xs→
  OwnS w B (.slice (some ⟨g,0,none⟩) N cap) xs→
  Calls Tryz.prog 242 #[.slice (some ⟨g,0,none⟩) N cap,.int .i64 a,.int .i64 m,.int .i64 b,.func (.func 237) #[] #[]] w
   (cw w B g N cap (fun ys=>Seg a b xs ys∧Ordered a b ys))
theorem tq (B g N cap a m b mid:Nat) (xs:List (Int×Int)) (w:World) (hB:B≤w.heap.size) (hBg:B≤g) (hN:xs.length=N) (hN2:N≤4000000000000) (ham:a+1 < m) (hmb:m+1 < b) (hb:b≤N)
  (hmid:mid=(a+b)/2) (hc:mid < m) (hoA:Ordered a m xs) (hoB:Ordered m b xs) (IH:jx B g N cap (b - a)) (ho:OwnS w B (.slice (some ⟨g,0,none⟩) N cap) xs):
  Calls Tryz.prog 242 #[.slice (some ⟨g,0,none⟩) N cap,.int .i64 a,.int .i64 m,.int .i64 b,.func (.func 237) #[] #[]] w
   (cw w B g N cap (fun ys=>Seg a b xs ys∧Ordered a b ys)):=by
 have HO:=zH ho
 have HN:=zH hN
 have HI:=zH IH
 have HOA:=zH hoA
 have HOB:=zH hoB
 clear ho hN hoB hoA IH
 obtain ⟨n,hn⟩:∃n,n=mid+m:=⟨_,rfl⟩
 obtain ⟨p,hp⟩:∃p,n=p+1:=⟨n - 1,by omega⟩
 obtain ⟨s0,hs⟩:∃s0,s0=n - b:=⟨_,rfl⟩
 obtain ⟨r0,hr⟩:∃r0,r0=mid:=⟨_,rfl⟩
 have b0:a≤s0:=by omega
 have b1:r0≤m:=by omega
 have b2:m+r0≤n:=by omega
 have b3:n≤b+s0:=by omega
 have b4:s0≤r0:=by omega
 have i1:((m:Int) - (a:Int)==1)=false:=by simp;omega
 have i2:((b:Int) - (m:Int)==1)=false:=by simp;omega
 have i3:(b:Int)≤4000000000000:=by omega
 have i4:(0:Int)≤(a:Int):=by omega
 have i5:(a:Int) < (m:Int):=by omega
 have i6:(b:Int)≤(N:Int):=by omega
 have i7:(m:Int) < (b:Int):=by omega
 have i8:((a:Int)+(b:Int))/2=(mid:Int):=by omega
 have i9:(mid:Int)+(m:Int)=(n:Int):=by omega
 have m1:(a:Int) < (mid:Int):=by omega
 have m2:(mid:Int) < (b:Int):=by omega
 have l2:(n:Int) - 1=(p:Int):=by omega
 have l0:(mid:Int) < (m:Int):=by omega
 have l1:(n:Int) - (b:Int)=(s0:Int):=by omega
 have hSZ:=zH (And.intro hs hr)
 clear hs hr hn hp hmid
 have hrm:r0=mid:=hSZ.out.2
 subst hrm
 go_enter Tryz.func242,Tryz.ntmps242
 go_wp2_with fail
 go_loopw [20,21] (fun i j wr=>sf w s0 r0 p xs i j wr) (fun i j _=>(intOf j).toNat - (intOf i).toNat)
 case atStart=>exact ⟨s0,r0,rfl,rfl,by omega,by omega,by omega,zo _,fun p h1 h2=>by omega,fun p h1 h2=>by omega⟩
 case round=>
  obtain ⟨i,j,rfl,rfl,hmi,hij,hjb,hext,hlo,hhi⟩:=hrel
  have HLO:=zH hlo
  have HHI:=zH hhi
  have HW:=zH (HO.out.ext hext)
  have HE:=zH hext
  clear hlo hhi hext
  by_cases hlt:i < j
  ·obtain ⟨h,hh⟩:∃h,h=(i+j)/2:=⟨_,rfl⟩
   obtain ⟨q,hq⟩:∃q,p=q+h:=⟨p - h,by omega⟩
   have k1:(i:Int)≤(h:Int):=by omega
   have k2:(h:Int) < (j:Int):=by omega
   have k3:(i:Int) < (j:Int):=by omega
   have k4:(s0:Int)≤(i:Int):=by omega
   have k5:(j:Int)≤(r0:Int):=by omega
   have hm:((i:Int)+(j:Int))/2=(h:Int):=by omega
   have hpq:(p:Int) - (h:Int)=(q:Int):=by omega
   have hqN:q < N:=by omega
   have hhN:h < N:=by omega
   have HH:=zH hh
   have HQ:=zH hq
   clear hh hq
   go_wp2_with fail
   clear hm
   obtain ⟨W,rfl⟩:∃W:World,W=wr:=⟨_,rfl⟩
   have hs0:Ext W W:=zo W
   obtain ⟨p1,p2, -, -⟩:=HW.out.at HN.out hqN
   obtain ⟨q1,q2, -, -⟩:=HW.out.at HN.out hhN
   obtain ⟨x,hgx⟩:∃x,gt xs q=x:=⟨_,rfl⟩
   obtain ⟨y,hgy⟩:∃y,gt xs h=y:=⟨_,rfl⟩
   rw [hgx]at p1 p2
   rw [hgy]at q1 q2
   have HX:=zH (And.intro hgx hgy)
   clear hgx hgy
   obtain ⟨x1,x2⟩:=x
   obtain ⟨y1,y2⟩:=y
   simp only at p1 p2 q1 q2
   have P1:=zH p1
   have P2:=zH p2
   have Q1:=zH q1
   have Q2:=zH q2
   clear p1 p2 q1 q2
   have c1:∀w',Ext W w'→w'.cell? ⟨g,q*2,none⟩=some (.int .i64 x1):=fun w' h=>h.cell P1.out
   have c2:∀w',Ext W w'→w'.cell? ⟨g,q*2+1,none⟩=some (.int .i64 x2):=fun w' h=>h.cell P2.out
   have c3:∀w',Ext W w'→w'.cell? ⟨g,h*2,none⟩=some (.int .i64 y1):=fun w' h=>h.cell Q1.out
   have c4:∀w',Ext W w'→w'.cell? ⟨g,h*2+1,none⟩=some (.int .i64 y2):=fun w' h=>h.cell Q2.out
   have k6:(0:Int)≤(h:Int):=by omega
   have k7:(h:Int) < (N:Int):=by omega
   have k8:(0:Int)≤(q:Int):=by omega
   have k9:(q:Int) < (N:Int):=by omega
   have j1:IntKind.i64.wrap (q:Int)=(q:Int):=IntWalk.i64_in _ oM
   cases hle:leS (y1,y2) (x1,x2)
   ·have hz:byZ (x1,x2) (y1,y2) < 0:=eX.2 hle
    go_region_held3 (fun w1=>Ext W w1) (first | (with_reducible assumption) | (exact zx aS) | (with_reducible exact zx (zz aS _)) | (with_reducible exact zz aS _) | (exact zt aS aS)) (first | (go_at_call 237;refine (f8 (x1,x2) (y1,y2) _).mono ?_;rintro e w1 ⟨rfl,hx⟩))
    go_wp2_with fail
    go_roundw
    case rel=>
     have e1:=HQ.out
     exact ⟨i,h,rfl,rfl,by omega,by omega,by omega,HE.out.trans aS,HLO.out,fun c h1 h2=>
      ia (y:=gt xs h) (jP (y:=gt xs q) (HOB.out.le (by omega:m≤p - c) (by omega:p - c≤q) oM) (by rw [HX.out.1,HX.out.2];exact hle)) (HOA.out.le oM h1 oM)⟩
    case measure=>simp [intOf];omega
   ·have hz1 : 0 ≤ byZ (x1, x2) (y1, y2) := by
     by_cases hz:byZ (x1,x2) (y1,y2) < 0
     ·rw [eX.1 hz]at hle;cases hle
     ·omega
    have hz2:decide (byZ (x1,x2) (y1,y2) < 0)=false:=by simp;omega
    go_region_held3 (fun w1=>Ext W w1) (first | (with_reducible assumption) | (exact zx aS) | (with_reducible exact zx (zz aS _)) | (with_reducible exact zz aS _) | (exact zt aS aS)) (first | (go_at_call 237;refine (f8 (x1,x2) (y1,y2) _).mono ?_;rintro e w1 ⟨rfl,hx⟩))
    go_wp2_with fail
    go_roundw
    case rel=>
     have e1:=HQ.out
     exact ⟨h+1,j,by go_num,rfl,by omega,by omega,by omega,HE.out.trans aS,fun c h1 h2=>
      cD _ _ _ (HOA.out.le (by omega:a≤c) (by omega:c≤h) oM) (cD _ _ _ (show leS (gt xs h) (gt xs q)=true by rw [HX.out.1,HX.out.2];exact hle) (HOB.out.le oM oM oM)),HHI.out⟩
    case measure=>simp [intOf];omega
  ·have k3:(j:Int)≤(i:Int):=by omega
   obtain rfl:i=j:=by omega
   obtain ⟨s,hsi⟩:∃s,s=i:=⟨_,rfl⟩
   subst hsi
   obtain ⟨e,he⟩:∃e,n=e+s:=⟨n - s,by omega⟩
   have k4:(n:Int) - (s:Int)=(e:Int):=by omega
   have HSP:=zH (fun (zs:List (Int×Int)) (h:Rot s m e xs zs)=>mj (d:=r0) h (by omega:a≤s) oM oM (by omega:e≤b) oM HOA.out HOB.out
    (fun h1 h2=>by have h:=HLO.out (s - 1) (by have:=hSZ.out.1;omega) oM;rwa [show p - (s - 1)=e by omega]at h)
    (fun h1 h2=>by have h:=HHI.out s oM oM;rw [show p - s=e - 1 by omega]at h;exact iH h))
   clear HO HLO HHI hlt
   by_cases hX:s < r0
   ·by_cases hY:a < s
    ·by_cases hZ:e < b
     ·have f1:(s:Int) < (m:Int):=by omega
      have f2:(m:Int) < (e:Int):=by omega
      have f3:(a:Int) < (s:Int):=by omega
      have f4:(s:Int) < (r0:Int):=by omega
      have f5:(r0:Int) < (e:Int):=by omega
      have f6:(e:Int) < (b:Int):=by omega
      go_wp2_with fail
      refine (dC B g N cap s m e xs _ hBg HN.out hN2 oM oM oM HW.out).mono ?_
      rintro e1 w1 ⟨rfl,hb1,zs,hyl,⟨hsg,hrt⟩,ho1⟩
      have SP:=zH (HSP.out zs hrt)
      have SG:=zH (hsg.mono (by omega:a≤s) (by omega:e≤b))
      have HL:=zH hyl
      have HO1:=zH ho1
      have BE:=zH ((Below.mono HE.out hB).trans hb1)
      clear hb1 hyl hsg hrt ho1
      have hsz:B≤w1.heap.size:=by have:=BE.out.size;omega
      go_wp2_with fail
      refine (HI.out a s r0 _ _ oM hsz HL.out oM oM oM SP.out.o1 SP.out.o2 HO1.out).mono ?_
      rintro e1 w2 ⟨rfl,hb1,ls,hyl,⟨hsg,hod⟩,ho1⟩
      have LS:=zH hsg
      have LO:=zH hod
      have HL2:=zH hyl
      have HO2:=zH ho1
      have BE2:=zH (BE.out.trans hb1)
      clear hb1 hyl hsg hod ho1 hsz
      have hsz:B≤w2.heap.size:=by have:=BE2.out.size;omega
      go_wp2_with fail
      refine (HI.out r0 e b _ _ oM hsz HL2.out oM oM oM (SP.out.o3.congr fun i h1 h2=>LS.out.out i oM) (SP.out.o4.congr fun i h1 h2=>LS.out.out i oM) HO2.out).mono ?_
      rintro e1 w3 ⟨rfl,hb1,rs,hyl,⟨hsg,hod⟩,ho1⟩
      have RS:=zH hsg
      have RO:=zH hod
      have HL3:=zH hyl
      have HO3:=zH ho1
      have BE3:=zH (BE2.out.trans hb1)
      clear hb1 hyl hsg hod ho1 hsz
      go_wp2_with fail
      go_end0
      have hd:=SP.out.done oM oM oM oM LS.out LO.out RS.out RO.out
      exact ⟨rfl,BE3.out,_,HL3.out,⟨SG.out.trans hd.1,hd.2⟩,HO3.out⟩
     ·have f1:(s:Int) < (m:Int):=by omega
      have f2:(m:Int) < (e:Int):=by omega
      have f3:(a:Int) < (s:Int):=by omega
      have f4:(s:Int) < (r0:Int):=by omega
      have f5:(r0:Int) < (e:Int):=by omega
      have f6:decide (e < b)=false:=by simp;omega
      have g6:(b:Int)≤(e:Int):=by omega
      go_wp2_with fail
      refine (dC B g N cap s m e xs _ hBg HN.out hN2 oM oM oM HW.out).mono ?_
      rintro e1 w1 ⟨rfl,hb1,zs,hyl,⟨hsg,hrt⟩,ho1⟩
      have SP:=zH (HSP.out zs hrt)
      have SG:=zH (hsg.mono (by omega:a≤s) (by omega:e≤b))
      have HL:=zH hyl
      have HO1:=zH ho1
      have BE:=zH ((Below.mono HE.out hB).trans hb1)
      clear hb1 hyl hsg hrt ho1
      have hsz:B≤w1.heap.size:=by have:=BE.out.size;omega
      go_wp2_with fail
      refine (HI.out a s r0 _ _ oM hsz HL.out oM oM oM SP.out.o1 SP.out.o2 HO1.out).mono ?_
      rintro e1 w2 ⟨rfl,hb1,ls,hyl,⟨hsg,hod⟩,ho1⟩
      have LS:=zH hsg
      have LO:=zH hod
      have HL2:=zH hyl
      have HO2:=zH ho1
      have BE2:=zH (BE.out.trans hb1)
      clear hb1 hyl hsg hod ho1 hsz
      have hsz:B≤w2.heap.size:=by have:=BE2.out.size;omega
      go_wp2_with fail
      have RS:=zH (AF r0 b ls)
      have RO:=zH (show Ordered r0 b ls by first | exact (SP.out.o4.sub oM oM).congr fun i h1 h2=>LS.out.out i oM | exact (SP.out.o3.sub oM oM).congr fun i h1 h2=>LS.out.out i oM)
      have HL3:=HL2
      have HO3:=HO2
      have BE3:=BE2
      go_end0
      have hd:=SP.out.done oM oM oM oM LS.out LO.out RS.out RO.out
      exact ⟨rfl,BE3.out,_,HL3.out,⟨SG.out.trans hd.1,hd.2⟩,HO3.out⟩
    ·by_cases hZ:e < b
     ·have f1:(s:Int) < (m:Int):=by omega
      have f2:(m:Int) < (e:Int):=by omega
      have f3:decide (a < s)=false:=by simp;omega
      have g3:(s:Int)≤(a:Int):=by omega
      have f4:(s:Int) < (r0:Int):=by omega
      have f5:(r0:Int) < (e:Int):=by omega
      have f6:(e:Int) < (b:Int):=by omega
      go_wp2_with fail
      refine (dC B g N cap s m e xs _ hBg HN.out hN2 oM oM oM HW.out).mono ?_
      rintro e1 w1 ⟨rfl,hb1,zs,hyl,⟨hsg,hrt⟩,ho1⟩
      have SP:=zH (HSP.out zs hrt)
      have SG:=zH (hsg.mono (by omega:a≤s) (by omega:e≤b))
      have HL:=zH hyl
      have HO1:=zH ho1
      have BE:=zH ((Below.mono HE.out hB).trans hb1)
      clear hb1 hyl hsg hrt ho1
      have hsz:B≤w1.heap.size:=by have:=BE.out.size;omega
      go_wp2_with fail
      have LS:=zH (AF a r0 zs)
      have LO:=zH (show Ordered a r0 _ by first | exact SP.out.o2.sub oM oM | exact SP.out.o1.sub oM oM)
      have HL2:=HL
      have HO2:=HO1
      have BE2:=BE
      refine (HI.out r0 e b _ _ oM hsz HL2.out oM oM oM (SP.out.o3.congr fun i h1 h2=>LS.out.out i oM) (SP.out.o4.congr fun i h1 h2=>LS.out.out i oM) HO2.out).mono ?_
      rintro e1 w3 ⟨rfl,hb1,rs,hyl,⟨hsg,hod⟩,ho1⟩
      have RS:=zH hsg
      have RO:=zH hod
      have HL3:=zH hyl
      have HO3:=zH ho1
      have BE3:=zH (BE2.out.trans hb1)
      clear hb1 hyl hsg hod ho1 hsz
      go_wp2_with fail
      go_end0
      have hd:=SP.out.done oM oM oM oM LS.out LO.out RS.out RO.out
      exact ⟨rfl,BE3.out,_,HL3.out,⟨SG.out.trans hd.1,hd.2⟩,HO3.out⟩
     ·have f1:(s:Int) < (m:Int):=by omega
      have f2:(m:Int) < (e:Int):=by omega
      have f3:decide (a < s)=false:=by simp;omega
      have g3:(s:Int)≤(a:Int):=by omega
      have f4:(s:Int) < (r0:Int):=by omega
      have f5:(r0:Int) < (e:Int):=by omega
      have f6:decide (e < b)=false:=by simp;omega
      have g6:(b:Int)≤(e:Int):=by omega
      go_wp2_with fail
      refine (dC B g N cap s m e xs _ hBg HN.out hN2 oM oM oM HW.out).mono ?_
      rintro e1 w1 ⟨rfl,hb1,zs,hyl,⟨hsg,hrt⟩,ho1⟩
      have SP:=zH (HSP.out zs hrt)
      have SG:=zH (hsg.mono (by omega:a≤s) (by omega:e≤b))
      have HL:=zH hyl
      have HO1:=zH ho1
      have BE:=zH ((Below.mono HE.out hB).trans hb1)
      clear hb1 hyl hsg hrt ho1
      have hsz:B≤w1.heap.size:=by have:=BE.out.size;omega
      go_wp2_with fail
      have LS:=zH (AF a r0 zs)
      have LO:=zH (show Ordered a r0 _ by first | exact SP.out.o2.sub oM oM | exact SP.out.o1.sub oM oM)
      have HL2:=HL
      have HO2:=HO1
      have BE2:=BE
      have RS:=zH (AF r0 b zs)
      have RO:=zH (show Ordered r0 b zs by first | exact (SP.out.o4.sub oM oM).congr fun i h1 h2=>LS.out.out i oM | exact (SP.out.o3.sub oM oM).congr fun i h1 h2=>LS.out.out i oM)
      have HL3:=HL2
      have HO3:=HO2
      have BE3:=BE2
      go_end0
      have hd:=SP.out.done oM oM oM oM LS.out LO.out RS.out RO.out
      exact ⟨rfl,BE3.out,_,HL3.out,⟨SG.out.trans hd.1,hd.2⟩,HO3.out⟩
   ·by_cases hZ:e < b
    ·have f1:(s:Int) < (m:Int):=by omega
     have f2:decide (m < e)=false:=by simp;omega
     have g2:(e:Int)≤(m:Int):=by omega
     have f3:(a:Int) < (s:Int):=by omega
     have f4:decide (s < r0)=false:=by simp;omega
     have g4:(r0:Int)≤(s:Int):=by omega
     have f5:(r0:Int) < (e:Int):=by omega
     have f6:(e:Int) < (b:Int):=by omega
     go_wp2_with fail
     have SP:=zH (HSP.out xs (Rot.same oM xs))
     have SG:=zH (AF a b xs)
     have HL:=HN
     have HO1:=HW
     have BE:=zH (Below.mono HE.out hB)
     have hsz:B≤wr.heap.size:=by have:=BE.out.size;omega
     have LS:=zH (AF a r0 xs)
     have LO:=zH (show Ordered a r0 _ by first | exact SP.out.o2.sub oM oM | exact SP.out.o1.sub oM oM)
     have HL2:=HL
     have HO2:=HO1
     have BE2:=BE
     refine (HI.out r0 e b _ _ oM hsz HL2.out oM oM oM (SP.out.o3.congr fun i h1 h2=>LS.out.out i oM) (SP.out.o4.congr fun i h1 h2=>LS.out.out i oM) HO2.out).mono ?_
     rintro e1 w3 ⟨rfl,hb1,rs,hyl,⟨hsg,hod⟩,ho1⟩
     have RS:=zH hsg
     have RO:=zH hod
     have HL3:=zH hyl
     have HO3:=zH ho1
     have BE3:=zH (BE2.out.trans hb1)
     clear hb1 hyl hsg hod ho1 hsz
     go_wp2_with fail
     go_end0
     have hd:=SP.out.done oM oM oM oM LS.out LO.out RS.out RO.out
     exact ⟨rfl,BE3.out,_,HL3.out,⟨SG.out.trans hd.1,hd.2⟩,HO3.out⟩
    ·have f1:(s:Int) < (m:Int):=by omega
     have f2:decide (m < e)=false:=by simp;omega
     have g2:(e:Int)≤(m:Int):=by omega
     have f3:(a:Int) < (s:Int):=by omega
     have f4:decide (s < r0)=false:=by simp;omega
     have g4:(r0:Int)≤(s:Int):=by omega
     have f5:(r0:Int) < (e:Int):=by omega
     have f6:decide (e < b)=false:=by simp;omega
     have g6:(b:Int)≤(e:Int):=by omega
     go_wp2_with fail
     have SP:=zH (HSP.out xs (Rot.same oM xs))
     have SG:=zH (AF a b xs)
     have HL:=HN
     have HO1:=HW
     have BE:=zH (Below.mono HE.out hB)
     have hsz:B≤wr.heap.size:=by have:=BE.out.size;omega
     have LS:=zH (AF a r0 xs)
     have LO:=zH (show Ordered a r0 _ by first | exact SP.out.o2.sub oM oM | exact SP.out.o1.sub oM oM)
     have HL2:=HL
     have HO2:=HO1
     have BE2:=BE
     have RS:=zH (AF r0 b xs)
     have RO:=zH (show Ordered r0 b xs by first | exact (SP.out.o4.sub oM oM).congr fun i h1 h2=>LS.out.out i oM | exact (SP.out.o3.sub oM oM).congr fun i h1 h2=>LS.out.out i oM)
     have HL3:=HL2
     have HO3:=HO2
     have BE3:=BE2
     go_end0
     have hd:=SP.out.done oM oM oM oM LS.out LO.out RS.out RO.out
     exact ⟨rfl,BE3.out,_,HL3.out,⟨SG.out.trans hd.1,hd.2⟩,HO3.out⟩
theorem tr (B g N cap a m b mid:Nat) (xs:List (Int×Int)) (w:World) (hB:B≤w.heap.size) (hBg:B≤g) (hN:xs.length=N) (hN2:N≤4000000000000) (ham:a+1 < m) (hmb:m+1 < b) (hb:b≤N)
  (hmid:mid=(a+b)/2) (hc:m≤mid) (hoA:Ordered a m xs) (hoB:Ordered m b xs) (IH:jx B g N cap (b - a)) (ho:OwnS w B (.slice (some ⟨g,0,none⟩) N cap) xs):
  Calls Tryz.prog 242 #[.slice (some ⟨g,0,none⟩) N cap,.int .i64 a,.int .i64 m,.int .i64 b,.func (.func 237) #[] #[]] w
   (cw w B g N cap (fun ys=>Seg a b xs ys∧Ordered a b ys)):=by
 have HO:=zH ho
 have HN:=zH hN
 have HI:=zH IH
 have HOA:=zH hoA
 have HOB:=zH hoB
 clear ho hN hoB hoA IH
 obtain ⟨n,hn⟩:∃n,n=mid+m:=⟨_,rfl⟩
 obtain ⟨p,hp⟩:∃p,n=p+1:=⟨n - 1,by omega⟩
 obtain ⟨s0,hs⟩:∃s0,s0=a:=⟨_,rfl⟩
 obtain ⟨r0,hr⟩:∃r0,r0=m:=⟨_,rfl⟩
 have b0:a≤s0:=by omega
 have b1:r0≤m:=by omega
 have b2:m+r0≤n:=by omega
 have b3:n≤b+s0:=by omega
 have b4:s0≤r0:=by omega
 have i1:((m:Int) - (a:Int)==1)=false:=by simp;omega
 have i2:((b:Int) - (m:Int)==1)=false:=by simp;omega
 have i3:(b:Int)≤4000000000000:=by omega
 have i4:(0:Int)≤(a:Int):=by omega
 have i5:(a:Int) < (m:Int):=by omega
 have i6:(b:Int)≤(N:Int):=by omega
 have i7:(m:Int) < (b:Int):=by omega
 have i8:((a:Int)+(b:Int))/2=(mid:Int):=by omega
 have i9:(mid:Int)+(m:Int)=(n:Int):=by omega
 have m1:(a:Int) < (mid:Int):=by omega
 have m2:(mid:Int) < (b:Int):=by omega
 have l2:(n:Int) - 1=(p:Int):=by omega
 have l0:(m:Int)≤(mid:Int):=by omega
 have l1:decide (mid < m)=false:=by simp;omega
 have hSZ:=zH (And.intro hs hr)
 clear hs hr hn hp hmid
 have hsa:s0=a:=hSZ.out.1
 have hrm:r0=m:=hSZ.out.2
 subst hsa hrm
 go_enter Tryz.func242,Tryz.ntmps242
 go_wp2_with fail
 go_loopw [20,21] (fun i j wr=>sf w s0 r0 p xs i j wr) (fun i j _=>(intOf j).toNat - (intOf i).toNat)
 case atStart=>exact ⟨s0,r0,rfl,rfl,by omega,by omega,by omega,zo _,fun p h1 h2=>by omega,fun p h1 h2=>by omega⟩
 case round=>
  obtain ⟨i,j,rfl,rfl,hmi,hij,hjb,hext,hlo,hhi⟩:=hrel
  have HLO:=zH hlo
  have HHI:=zH hhi
  have HW:=zH (HO.out.ext hext)
  have HE:=zH hext
  clear hlo hhi hext
  by_cases hlt:i < j
  ·obtain ⟨h,hh⟩:∃h,h=(i+j)/2:=⟨_,rfl⟩
   obtain ⟨q,hq⟩:∃q,p=q+h:=⟨p - h,by omega⟩
   have k1:(i:Int)≤(h:Int):=by omega
   have k2:(h:Int) < (j:Int):=by omega
   have k3:(i:Int) < (j:Int):=by omega
   have k4:(s0:Int)≤(i:Int):=by omega
   have k5:(j:Int)≤(r0:Int):=by omega
   have hm:((i:Int)+(j:Int))/2=(h:Int):=by omega
   have hpq:(p:Int) - (h:Int)=(q:Int):=by omega
   have hqN:q < N:=by omega
   have hhN:h < N:=by omega
   have HH:=zH hh
   have HQ:=zH hq
   clear hh hq
   go_wp2_with fail
   clear hm
   obtain ⟨W,rfl⟩:∃W:World,W=wr:=⟨_,rfl⟩
   have hs0:Ext W W:=zo W
   obtain ⟨p1,p2, -, -⟩:=HW.out.at HN.out hqN
   obtain ⟨q1,q2, -, -⟩:=HW.out.at HN.out hhN
   obtain ⟨x,hgx⟩:∃x,gt xs q=x:=⟨_,rfl⟩
   obtain ⟨y,hgy⟩:∃y,gt xs h=y:=⟨_,rfl⟩
   rw [hgx]at p1 p2
   rw [hgy]at q1 q2
   have HX:=zH (And.intro hgx hgy)
   clear hgx hgy
   obtain ⟨x1,x2⟩:=x
   obtain ⟨y1,y2⟩:=y
   simp only at p1 p2 q1 q2
   have P1:=zH p1
   have P2:=zH p2
   have Q1:=zH q1
   have Q2:=zH q2
   clear p1 p2 q1 q2
   have c1:∀w',Ext W w'→w'.cell? ⟨g,q*2,none⟩=some (.int .i64 x1):=fun w' h=>h.cell P1.out
   have c2:∀w',Ext W w'→w'.cell? ⟨g,q*2+1,none⟩=some (.int .i64 x2):=fun w' h=>h.cell P2.out
   have c3:∀w',Ext W w'→w'.cell? ⟨g,h*2,none⟩=some (.int .i64 y1):=fun w' h=>h.cell Q1.out
   have c4:∀w',Ext W w'→w'.cell? ⟨g,h*2+1,none⟩=some (.int .i64 y2):=fun w' h=>h.cell Q2.out
   have k6:(0:Int)≤(h:Int):=by omega
   have k7:(h:Int) < (N:Int):=by omega
   have k8:(0:Int)≤(q:Int):=by omega
   have k9:(q:Int) < (N:Int):=by omega
   have j1:IntKind.i64.wrap (q:Int)=(q:Int):=IntWalk.i64_in _ oM
   cases hle:leS (y1,y2) (x1,x2)
   ·have hz:byZ (x1,x2) (y1,y2) < 0:=eX.2 hle
    go_region_held3 (fun w1=>Ext W w1) (first | (with_reducible assumption) | (exact zx aS) | (with_reducible exact zx (zz aS _)) | (with_reducible exact zz aS _) | (exact zt aS aS)) (first | (go_at_call 237;refine (f8 (x1,x2) (y1,y2) _).mono ?_;rintro e w1 ⟨rfl,hx⟩))
    go_wp2_with fail
    go_roundw
    case rel=>
     have e1:=HQ.out
     exact ⟨i,h,rfl,rfl,by omega,by omega,by omega,HE.out.trans aS,HLO.out,fun c h1 h2=>
      ia (y:=gt xs h) (jP (y:=gt xs q) (HOB.out.le (by omega:r0≤p - c) (by omega:p - c≤q) oM) (by rw [HX.out.1,HX.out.2];exact hle)) (HOA.out.le oM h1 oM)⟩
    case measure=>simp [intOf];omega
   ·have hz1 : 0 ≤ byZ (x1, x2) (y1, y2) := by
     by_cases hz:byZ (x1,x2) (y1,y2) < 0
     ·rw [eX.1 hz]at hle;cases hle
     ·omega
    have hz2:decide (byZ (x1,x2) (y1,y2) < 0)=false:=by simp;omega
    go_region_held3 (fun w1=>Ext W w1) (first | (with_reducible assumption) | (exact zx aS) | (with_reducible exact zx (zz aS _)) | (with_reducible exact zz aS _) | (exact zt aS aS)) (first | (go_at_call 237;refine (f8 (x1,x2) (y1,y2) _).mono ?_;rintro e w1 ⟨rfl,hx⟩))
    go_wp2_with fail
    go_roundw
    case rel=>
     have e1:=HQ.out
     exact ⟨h+1,j,by go_num,rfl,by omega,by omega,by omega,HE.out.trans aS,fun c h1 h2=>
      cD _ _ _ (HOA.out.le (by omega:s0≤c) (by omega:c≤h) oM) (cD _ _ _ (show leS (gt xs h) (gt xs q)=true by rw [HX.out.1,HX.out.2];exact hle) (HOB.out.le oM oM oM)),HHI.out⟩
    case measure=>simp [intOf];omega
  ·have k3:(j:Int)≤(i:Int):=by omega
   obtain rfl:i=j:=by omega
   obtain ⟨s,hsi⟩:∃s,s=i:=⟨_,rfl⟩
   subst hsi
   obtain ⟨e,he⟩:∃e,n=e+s:=⟨n - s,by omega⟩
   have k4:(n:Int) - (s:Int)=(e:Int):=by omega
   have HSP:=zH (fun (zs:List (Int×Int)) (h:Rot s r0 e xs zs)=>mj (d:=mid) h (by omega:s0≤s) oM oM (by omega:e≤b) oM HOA.out HOB.out
    (fun h1 h2=>by have h:=HLO.out (s - 1) (by have:=hSZ.out.1;omega) oM;rwa [show p - (s - 1)=e by omega]at h)
    (fun h1 h2=>by have h:=HHI.out s oM oM;rw [show p - s=e - 1 by omega]at h;exact iH h))
   clear HO HLO HHI hlt
   by_cases hX:s < r0
   ·by_cases hY:s0 < s
    ·by_cases hZ:e < b
     ·have f1:(s:Int) < (r0:Int):=by omega
      have f2:(r0:Int) < (e:Int):=by omega
      have f3:(s0:Int) < (s:Int):=by omega
      have f4:(s:Int) < (mid:Int):=by omega
      have f5:(mid:Int) < (e:Int):=by omega
      have f6:(e:Int) < (b:Int):=by omega
      go_wp2_with fail
      refine (dC B g N cap s r0 e xs _ hBg HN.out hN2 oM oM oM HW.out).mono ?_
      rintro e1 w1 ⟨rfl,hb1,zs,hyl,⟨hsg,hrt⟩,ho1⟩
      have SP:=zH (HSP.out zs hrt)
      have SG:=zH (hsg.mono (by omega:s0≤s) (by omega:e≤b))
      have HL:=zH hyl
      have HO1:=zH ho1
      have BE:=zH ((Below.mono HE.out hB).trans hb1)
      clear hb1 hyl hsg hrt ho1
      have hsz:B≤w1.heap.size:=by have:=BE.out.size;omega
      go_wp2_with fail
      refine (HI.out s0 s mid _ _ oM hsz HL.out oM oM oM SP.out.o1 SP.out.o2 HO1.out).mono ?_
      rintro e1 w2 ⟨rfl,hb1,ls,hyl,⟨hsg,hod⟩,ho1⟩
      have LS:=zH hsg
      have LO:=zH hod
      have HL2:=zH hyl
      have HO2:=zH ho1
      have BE2:=zH (BE.out.trans hb1)
      clear hb1 hyl hsg hod ho1 hsz
      have hsz:B≤w2.heap.size:=by have:=BE2.out.size;omega
      go_wp2_with fail
      refine (HI.out mid e b _ _ oM hsz HL2.out oM oM oM (SP.out.o3.congr fun i h1 h2=>LS.out.out i oM) (SP.out.o4.congr fun i h1 h2=>LS.out.out i oM) HO2.out).mono ?_
      rintro e1 w3 ⟨rfl,hb1,rs,hyl,⟨hsg,hod⟩,ho1⟩
      have RS:=zH hsg
      have RO:=zH hod
      have HL3:=zH hyl
      have HO3:=zH ho1
      have BE3:=zH (BE2.out.trans hb1)
      clear hb1 hyl hsg hod ho1 hsz
      go_wp2_with fail
      go_end0
      have hd:=SP.out.done oM oM oM oM LS.out LO.out RS.out RO.out
      exact ⟨rfl,BE3.out,_,HL3.out,⟨SG.out.trans hd.1,hd.2⟩,HO3.out⟩
     ·have f1:(s:Int) < (r0:Int):=by omega
      have f2:(r0:Int) < (e:Int):=by omega
      have f3:(s0:Int) < (s:Int):=by omega
      have f4:(s:Int) < (mid:Int):=by omega
      have f5:(mid:Int) < (e:Int):=by omega
      have f6:decide (e < b)=false:=by simp;omega
      have g6:(b:Int)≤(e:Int):=by omega
      go_wp2_with fail
      refine (dC B g N cap s r0 e xs _ hBg HN.out hN2 oM oM oM HW.out).mono ?_
      rintro e1 w1 ⟨rfl,hb1,zs,hyl,⟨hsg,hrt⟩,ho1⟩
      have SP:=zH (HSP.out zs hrt)
      have SG:=zH (hsg.mono (by omega:s0≤s) (by omega:e≤b))
      have HL:=zH hyl
      have HO1:=zH ho1
      have BE:=zH ((Below.mono HE.out hB).trans hb1)
      clear hb1 hyl hsg hrt ho1
      have hsz:B≤w1.heap.size:=by have:=BE.out.size;omega
      go_wp2_with fail
      refine (HI.out s0 s mid _ _ oM hsz HL.out oM oM oM SP.out.o1 SP.out.o2 HO1.out).mono ?_
      rintro e1 w2 ⟨rfl,hb1,ls,hyl,⟨hsg,hod⟩,ho1⟩
      have LS:=zH hsg
      have LO:=zH hod
      have HL2:=zH hyl
      have HO2:=zH ho1
      have BE2:=zH (BE.out.trans hb1)
      clear hb1 hyl hsg hod ho1 hsz
      have hsz:B≤w2.heap.size:=by have:=BE2.out.size;omega
      go_wp2_with fail
      have RS:=zH (AF mid b ls)
      have RO:=zH (show Ordered mid b ls by first | exact (SP.out.o4.sub oM oM).congr fun i h1 h2=>LS.out.out i oM | exact (SP.out.o3.sub oM oM).congr fun i h1 h2=>LS.out.out i oM)
      have HL3:=HL2
      have HO3:=HO2
      have BE3:=BE2
      go_end0
      have hd:=SP.out.done oM oM oM oM LS.out LO.out RS.out RO.out
      exact ⟨rfl,BE3.out,_,HL3.out,⟨SG.out.trans hd.1,hd.2⟩,HO3.out⟩
    ·by_cases hZ:e < b
     ·have f1:(s:Int) < (r0:Int):=by omega
      have f2:(r0:Int) < (e:Int):=by omega
      have f3:decide (s0 < s)=false:=by simp;omega
      have g3:(s:Int)≤(s0:Int):=by omega
      have f4:(s:Int) < (mid:Int):=by omega
      have f5:(mid:Int) < (e:Int):=by omega
      have f6:(e:Int) < (b:Int):=by omega
      go_wp2_with fail
      refine (dC B g N cap s r0 e xs _ hBg HN.out hN2 oM oM oM HW.out).mono ?_
      rintro e1 w1 ⟨rfl,hb1,zs,hyl,⟨hsg,hrt⟩,ho1⟩
      have SP:=zH (HSP.out zs hrt)
      have SG:=zH (hsg.mono (by omega:s0≤s) (by omega:e≤b))
      have HL:=zH hyl
      have HO1:=zH ho1
      have BE:=zH ((Below.mono HE.out hB).trans hb1)
      clear hb1 hyl hsg hrt ho1
      have hsz:B≤w1.heap.size:=by have:=BE.out.size;omega
      go_wp2_with fail
      have LS:=zH (AF s0 mid zs)
      have LO:=zH (show Ordered s0 mid _ by first | exact SP.out.o2.sub oM oM | exact SP.out.o1.sub oM oM)
      have HL2:=HL
      have HO2:=HO1
      have BE2:=BE
      refine (HI.out mid e b _ _ oM hsz HL2.out oM oM oM (SP.out.o3.congr fun i h1 h2=>LS.out.out i oM) (SP.out.o4.congr fun i h1 h2=>LS.out.out i oM) HO2.out).mono ?_
      rintro e1 w3 ⟨rfl,hb1,rs,hyl,⟨hsg,hod⟩,ho1⟩
      have RS:=zH hsg
      have RO:=zH hod
      have HL3:=zH hyl
      have HO3:=zH ho1
      have BE3:=zH (BE2.out.trans hb1)
      clear hb1 hyl hsg hod ho1 hsz
      go_wp2_with fail
      go_end0
      have hd:=SP.out.done oM oM oM oM LS.out LO.out RS.out RO.out
      exact ⟨rfl,BE3.out,_,HL3.out,⟨SG.out.trans hd.1,hd.2⟩,HO3.out⟩
     ·have f1:(s:Int) < (r0:Int):=by omega
      have f2:(r0:Int) < (e:Int):=by omega
      have f3:decide (s0 < s)=false:=by simp;omega
      have g3:(s:Int)≤(s0:Int):=by omega
      have f4:(s:Int) < (mid:Int):=by omega
      have f5:(mid:Int) < (e:Int):=by omega
      have f6:decide (e < b)=false:=by simp;omega
      have g6:(b:Int)≤(e:Int):=by omega
      go_wp2_with fail
      refine (dC B g N cap s r0 e xs _ hBg HN.out hN2 oM oM oM HW.out).mono ?_
      rintro e1 w1 ⟨rfl,hb1,zs,hyl,⟨hsg,hrt⟩,ho1⟩
      have SP:=zH (HSP.out zs hrt)
      have SG:=zH (hsg.mono (by omega:s0≤s) (by omega:e≤b))
      have HL:=zH hyl
      have HO1:=zH ho1
      have BE:=zH ((Below.mono HE.out hB).trans hb1)
      clear hb1 hyl hsg hrt ho1
      have hsz:B≤w1.heap.size:=by have:=BE.out.size;omega
      go_wp2_with fail
      have LS:=zH (AF s0 mid zs)
      have LO:=zH (show Ordered s0 mid _ by first | exact SP.out.o2.sub oM oM | exact SP.out.o1.sub oM oM)
      have HL2:=HL
      have HO2:=HO1
      have BE2:=BE
      have RS:=zH (AF mid b zs)
      have RO:=zH (show Ordered mid b zs by first | exact (SP.out.o4.sub oM oM).congr fun i h1 h2=>LS.out.out i oM | exact (SP.out.o3.sub oM oM).congr fun i h1 h2=>LS.out.out i oM)
      have HL3:=HL2
      have HO3:=HO2
      have BE3:=BE2
      go_end0
      have hd:=SP.out.done oM oM oM oM LS.out LO.out RS.out RO.out
      exact ⟨rfl,BE3.out,_,HL3.out,⟨SG.out.trans hd.1,hd.2⟩,HO3.out⟩
   ·by_cases hU:s < mid
    ·have f1:decide (s < r0)=false:=by simp;omega
     have g1:(r0:Int)≤(s:Int):=by omega
     have f2:(s0:Int) < (s:Int):=by omega
     have f3:(s:Int) < (mid:Int):=by omega
     have f4:decide (mid < e)=false:=by simp;omega
     have g4:(e:Int)≤(mid:Int):=by omega
     go_wp2_with fail
     have SP:=zH (HSP.out xs (Rot.same oM xs))
     have SG:=zH (AF s0 b xs)
     have HL:=HN
     have HO1:=HW
     have BE:=zH (Below.mono HE.out hB)
     have hsz:B≤wr.heap.size:=by have:=BE.out.size;omega
     refine (HI.out s0 s mid _ _ oM hsz HL.out oM oM oM SP.out.o1 SP.out.o2 HO1.out).mono ?_
     rintro e1 w2 ⟨rfl,hb1,ls,hyl,⟨hsg,hod⟩,ho1⟩
     have LS:=zH hsg
     have LO:=zH hod
     have HL2:=zH hyl
     have HO2:=zH ho1
     have BE2:=zH (BE.out.trans hb1)
     clear hb1 hyl hsg hod ho1 hsz
     have hsz:B≤w2.heap.size:=by have:=BE2.out.size;omega
     go_wp2_with fail
     have RS:=zH (AF mid b ls)
     have RO:=zH (show Ordered mid b ls by first | exact (SP.out.o4.sub oM oM).congr fun i h1 h2=>LS.out.out i oM | exact (SP.out.o3.sub oM oM).congr fun i h1 h2=>LS.out.out i oM)
     have HL3:=HL2
     have HO3:=HO2
     have BE3:=BE2
     go_end0
     have hd:=SP.out.done oM oM oM oM LS.out LO.out RS.out RO.out
     exact ⟨rfl,BE3.out,_,HL3.out,⟨SG.out.trans hd.1,hd.2⟩,HO3.out⟩
    ·have f1:decide (s < r0)=false:=by simp;omega
     have g1:(r0:Int)≤(s:Int):=by omega
     have f2:(s0:Int) < (s:Int):=by omega
     have f3:decide (s < mid)=false:=by simp;omega
     have g3:(mid:Int)≤(s:Int):=by omega
     have f4:decide (mid < e)=false:=by simp;omega
     have g4:(e:Int)≤(mid:Int):=by omega
     go_wp2_with fail
     have SP:=zH (HSP.out xs (Rot.same oM xs))
     have SG:=zH (AF s0 b xs)
     have HL:=HN
     have HO1:=HW
     have BE:=zH (Below.mono HE.out hB)
     have hsz:B≤wr.heap.size:=by have:=BE.out.size;omega
     have LS:=zH (AF s0 mid xs)
     have LO:=zH (show Ordered s0 mid _ by first | exact SP.out.o2.sub oM oM | exact SP.out.o1.sub oM oM)
     have HL2:=HL
     have HO2:=HO1
     have BE2:=BE
     have RS:=zH (AF mid b xs)
     have RO:=zH (show Ordered mid b xs by first | exact (SP.out.o4.sub oM oM).congr fun i h1 h2=>LS.out.out i oM | exact (SP.out.o3.sub oM oM).congr fun i h1 h2=>LS.out.out i oM)
     have HL3:=HL2
     have HO3:=HO2
     have BE3:=BE2
     go_end0
     have hd:=SP.out.done oM oM oM oM LS.out LO.out RS.out RO.out
     exact ⟨rfl,BE3.out,_,HL3.out,⟨SG.out.trans hd.1,hd.2⟩,HO3.out⟩
end Go.Proofs.YtphpppjfogpohaaGreat
namespace Go.Proofs.YtphpppjfogpohaaGreat
theorem vg (B g N cap:Nat) (hBg:B≤g) (hN2:N≤4000000000000):∀K,jx B g N cap K:=by
 intro K
 induction K with
 | zero=>intro a m b xs w h;omega
 | succ K ih=>
  intro a m b xs w h hB hN ham hmb hb hoA hoB ho
  by_cases c1:m=a+1
  ·exact ve B g N cap a m b xs w hB hBg hN hN2 c1 hmb hb hoB ho
  ·by_cases c2:b=m+1
   ·exact vf B g N cap a m b xs w hB hBg hN hN2 oM c2 hb hoA ho
   ·have IH:jx B g N cap (b - a):=fun a' m' b' xs' w' h'=>ih a' m' b' xs' w' oM
    by_cases c3:(a+b)/2 < m
    ·exact tq B g N cap a m b _ xs w hB hBg hN hN2 oM oM hb rfl c3 hoA hoB IH ho
    ·exact tr B g N cap a m b _ xs w hB hBg hN hN2 oM oM hb rfl oM hoA hoB IH ho
theorem xj (B g N cap a m b:Nat) (xs:List (Int×Int)) (w:World) (hB:B≤w.heap.size) (hBg:B≤g) (hN:xs.length=N) (hN2:N≤4000000000000) (ham:a < m) (hmb:m < b) (hb:b≤N)
  (hoA:Ordered a m xs) (hoB:Ordered m b xs) (ho:OwnS w B (.slice (some ⟨g,0,none⟩) N cap) xs):
  Calls Tryz.prog 242 #[.slice (some ⟨g,0,none⟩) N cap,.int .i64 a,.int .i64 m,.int .i64 b,.func (.func 237) #[] #[]] w
   (cw w B g N cap (fun ys=>Seg a b xs ys∧Ordered a b ys)):=
 vg B g N cap hBg hN2 (b - a+1) a m b xs w oM hB hN ham hmb hb hoA hoB ho
inductive Blk (bs N:Nat) (zs:List (Int×Int)):Nat→Prop
 | last (p:Nat):p≤N→N≤p+bs→Ordered p N zs→Blk bs N zs p
 | cons (p:Nat):p+bs≤N→Ordered p (p+bs) zs→Blk bs N zs (p+bs)→Blk bs N zs p
inductive DBlk (bs:Nat) (zs:List (Int×Int)):Nat→Prop
 | zero:DBlk bs zs 0
 | snoc (p:Nat):DBlk bs zs p→Ordered p (p+bs) zs→DBlk bs zs (p+bs)
theorem DBlk.congr {bs p:Nat} {zs ys:List (Int×Int)} (h:DBlk bs zs p):(∀i,i < p→gt ys i=gt zs i)→DBlk bs ys p:=by
 induction h with
 | zero=>intro _;exact DBlk.zero
 | snoc p h1 h2 ih=>intro e;exact DBlk.snoc p (ih fun i hi=>e i oM) (h2.congr fun i h3 h4=>e i h4)
theorem Blk.congr {bs N p:Nat} {zs ys:List (Int×Int)} (h:Blk bs N zs p):(∀i,p≤i→gt ys i=gt zs i)→Blk bs N ys p:=by
 induction h with
 | last p h1 h2 h3=>intro e;exact Blk.last p h1 h2 (h3.congr fun i h3 h4=>e i h3)
 | cons p h1 h2 h3 ih=>intro e;exact Blk.cons p h1 (h2.congr fun i h3 h4=>e i h3) (ih fun i hi=>e i oM)
theorem DBlk.all {bs N p:Nat} {zs:List (Int×Int)} (h:DBlk bs zs p):Blk bs N zs p→p≤N→Blk bs N zs 0:=by
 induction h with
 | zero=>intro h _;exact h
 | snoc p h1 h2 ih=>intro h hp;exact ih (Blk.cons p hp h2 h) oM
theorem Blk.two {bs N p:Nat} {zs:List (Int×Int)} (h:Blk bs N zs p) (hb:0 < bs) (hp:p+2*bs≤N):Ordered p (p+bs) zs∧Ordered (p+bs) (p+2*bs) zs∧Blk bs N zs (p+2*bs):=by
 cases h with
 | last _ h1 h2 h3=>omega
 | cons _ h1 h2 h3=>
  refine ⟨h2,?_⟩
  cases h3 with
  | last _ k1 k2 k3=>
   have e:N=p+2*bs:=by omega
   exact ⟨e ▸ k3,Blk.last _ hp oM fun i j h1 h2 h3=>by omega⟩
  | cons _ k1 k2 k3=>
   rw [show p+bs+bs=p+2*bs by omega]at k2 k3
   exact ⟨k2,k3⟩
theorem Blk.lastTwo {bs N p:Nat} {zs:List (Int×Int)} (h:Blk bs N zs p) (hp:p+bs < N) (hq:N < p+2*bs):Ordered p (p+bs) zs∧Ordered (p+bs) N zs:=by
 cases h with
 | last _ h1 h2 h3=>omega
 | cons _ h1 h2 h3=>
  refine ⟨h2,?_⟩
  cases h3 with
  | last _ k1 k2 k3=>exact k3
  | cons _ k1 k2 k3=>omega
theorem Blk.one {bs N p:Nat} {zs:List (Int×Int)} (h:Blk bs N zs p) (hp:N≤p+bs):Ordered p N zs:=by
 cases h with
 | last _ h1 h2 h3=>exact h3
 | cons _ h1 h2 h3=>exact h2.sub (Nat.le_refl _) hp
end Go.Proofs.YtphpppjfogpohaaGreat
