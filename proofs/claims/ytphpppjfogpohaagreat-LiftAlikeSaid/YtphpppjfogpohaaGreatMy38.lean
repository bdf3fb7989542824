/- Merged by program (merge.py) out of: CnM, CnN, CnO, CnQ, RchH, RchI. -/
import Derived.Test.YtphpppjfogpohaaGreatMy0
import Derived.Test.YtphpppjfogpohaaGreatMy37
import Derived.Test.YtphpppjfogpohaaGreatMy36
import Derived.Test.YtphpppjfogpohaaGreatMy4
import Derived.Test.YtphpppjfogpohaaGreatMy3
set_option linter.unusedSimpArgs false
set_option linter.unusedVariables false
set_option maxRecDepth 100000
set_option maxHeartbeats 16000000
namespace Go.Proofs.YtphpppjfogpohaaGreat
open Go.RowKit Go.Shelf
structure MR (V0:World) (A B:GraphD) (b g1 g2:Nat) (s:MtD) (w:World):Prop where
 blk:w.heap[b]?=some (.cells #[.slice A.nA A.ns.length A.ncap,.slice A.rA A.rs.length A.rcap,.slice B.nA B.ns.length B.ncap,.slice B.rA B.rs.length B.rcap,.slice (some ⟨g1,0,none⟩) A.ns.length A.ns.length,.slice (some ⟨g2,0,none⟩) B.ns.length B.ns.length,.bool s.bad] 175 (0,0))
 to:Own 3 1 intC w V0.heap.size (.slice (some ⟨g1,0,none⟩) A.ns.length A.ns.length) s.to
 at_:Own 3 1 intC w V0.heap.size (.slice (some ⟨g2,0,none⟩) B.ns.length B.ns.length) s.at_
 ne:g1≠g2
 ext:Ext V0 w
 lo:V0.heap.size≤b
section
variable {V0 : World} {A B : GraphD} {b g1 g2 : Nat} {s : MtD} {w w' : World}
theorem MR.grow (h:MR V0 A B b g1 g2 s w) (hx:Ext w w'):MR V0 A B b g1 g2 s w':=
 ⟨(hx.block (aA h.blk)).trans h.blk,h.to.ext hx,h.at_.ext hx,h.ne,h.ext.trans hx,h.lo⟩
theorem MR.no (h:MR V0 A B b g1 g2 s w):MR V0 A B b g1 g2 s.no (w.setCell ⟨b,6,none⟩ (.bool true)):=
 ⟨aL h.blk _,h.to.setOther h.blk dM,h.at_.setOther h.blk dM,h.ne,h.ext.setCell h.lo _,h.lo⟩
theorem MR.neb (h:MR V0 A B b g1 g2 s w):b≠g1∧b≠g2:=
 ⟨fun e=>h.to.ne_block h.blk dM (by rw [e];rfl),fun e=>h.at_.ne_block h.blk dM (by rw [e];rfl)⟩
theorem MR.set (h:MR V0 A B b g1 g2 s w) (hl:s.to.length=A.ns.length) (hm:s.at_.length=B.ns.length) (i k:Nat):
  MR V0 A B b g1 g2 ⟨s.to.set i k,s.at_.set k i,s.bad⟩ ((w.setCell ⟨g1,i,none⟩ (.int .i64 k)).setCell ⟨g2,k,none⟩ (.int .i64 i)):=by
 obtain ⟨n1,n2⟩:=h.neb
 have a1:=ke h.to hl i k
 have a2:Own 3 1 intC (w.setCell ⟨g1,i,none⟩ (.int .i64 k)) V0.heap.size (.slice (some ⟨g2,0,none⟩) B.ns.length B.ns.length) s.at_:=h.at_.setNe (by
  intro e
  have:g2=g1:=by simpa [Value.ownBlock]using e
  exact h.ne this.symm)
 refine ⟨bC (bC h.blk _ n1) _ n2,a1.setNe (by
  intro e
  have:g1=g2:=by simpa [Value.ownBlock]using e
  exact h.ne this),ke a2 hm k i,h.ne,(h.ext.setCell (p:=⟨g1,i,none⟩) (bM h.to rfl).1 _).setCell (p:=⟨g2,k,none⟩) (bM h.at_ rfl).1 _,h.lo⟩
end
def gh (n k:Nat):List Int:=List.replicate k (-1)++List.replicate (n - k) 0
theorem nN {n k:Nat} (h:k≤n):(gh n k).length=n:=by simp [gh];omega
theorem ui {n k:Nat} (h:k < n):(gh n k).set k (-1)=gh n (k+1):=by
 refine List.ext_getElem (by simp [gh];omega) fun i h1 h2=> ?_
 rw [List.getElem_set]
 have hi:i < n:=by simp [gh]at h2;omega
 by_cases he:k=i
 ·subst he
  rw [if_pos rfl]
  simp only [gh]
  rw [List.getElem_append_left sM]
  simp
 ·rw [if_neg he]
  simp only [gh]
  by_cases hl:i < k
  ·rw [List.getElem_append_left (by simpa using hl),List.getElem_append_left (by simp;omega)]
   simp
  ·rw [List.getElem_append_right (by simp;omega),List.getElem_append_right (by simp;omega)]
   simp
theorem nO (n:Nat) (V:World) (hn:n≤1000):Calls Tryz.prog 129 #[.int .i64 n] V fun e w'=>∃g,e= .returned (.slice (some ⟨g,0,none⟩) n n)∧Own 3 1 intC w' V.heap.size (.slice (some ⟨g,0,none⟩) n n) (List.replicate n (-1))∧Ext V w':=by
 go_enter Tryz.func129,Tryz.ntmps129
 go_wp2_with (at_make;refine oP rfl (.tmp 5) rfl n rfl oM ?_;intro w1 hown hx;have HO:=zH hown;have HX:=zH hx;clear hown hx)
 generalize hVX:V.heap.size=X at*
 have HVX:=zH hVX
 clear hVX
 go_loopw [4] (fun i wr=>∃k:Nat,k≤n∧i= .int .i64 k∧Hid (Ext V wr)∧Hid (Own 3 1 intC wr X (.slice (some ⟨X,0,none⟩) n n) (gh n k))) (fun i _=>n - (intOf i).toNat)
 case atStart=>exact ⟨0,by omega,rfl,HX,zH (by have:=HO.out;simpa [gh]using this)⟩
 case round=>
  obtain ⟨k,hk,rfl,hxk,hO⟩:=hrel
  clear HX HO
  by_cases hlt:k < n
  rotate_left
  ·obtain rfl:k=n:=by omega
   go_wp2_with fail
   go_returns
   exact ⟨X,rfl,by have:=hO.out;rw [HVX.out];simpa [gh]using this,hxk.out⟩
  have ib1:(k:Int) < (n:Int):=by omega
  have ib0:(0:Int)≤(k:Int):=by omega
  have c1:=et hO.out (nN hk) hlt
  obtain ⟨cur,hh⟩:=ci hO.out
  have fz:=(aB hh).2
  have hS:=ke hO.out (nN hk) k (-1)
  rw [ui hlt]at hS
  have HS:=zH hS
  have HX2:=zH (hxk.out.setCell (p:=⟨X,k,none⟩) (by rw [HVX.out];exact (bM hO.out rfl).1) (.int .i64 (-1)))
  clear hS hh hO hxk
  generalize (gh n k).getD k 0=z at c1
  go_wp2_with fail
  go_roundw
  case rel=>exact ⟨k+1,by omega,by go_num,HX2,HS⟩
  case measure=>simp [intOf];omega
structure MtG (V0:World) (A B:GraphD):Prop where
 a:GraphAt V0 A
 b:GraphAt V0 B
 oa:GOk A
 ob:GOk B
 ra:aR A=true
 rb:aR B=true
theorem cX (A:GraphD):(valN A).length=A.ns.length:=by simp [valN]
section
variable {V0 : World} {A B : GraphD} {b g1 g2 f : Nat}
def stM (A B:GraphD) (f:Nat) (s:MtD) (xs ys:List (Int×Int)) (k:Nat):MtD:=((xs.zip ys).take k).foldl (valM (af (valN A) (valN B) f)) s
theorem yM {xs ys:List (Int×Int)} {k:Nat} (h1:k < xs.length) (h2:k < ys.length):(xs.zip ys).getD k ((0,0),(0,0))=(xs.getD k (0,0),ys.getD k (0,0)):=by
 rw [aU (by simp;omega),aU h1,aU h2,List.getElem_zip]
theorem ww {s:MtD} {xs ys:List (Int×Int)} {k:Nat} (h1:k < xs.length) (h2:k < ys.length):stM A B f s xs ys (k+1)=valM (af (valN A) (valN B) f) (stM A B f s xs ys k) (xs.getD k (0,0),ys.getD k (0,0)):=by
 unfold stM
 rw [nL (d:=((0,0),(0,0))) (by simp;omega),yM h1 h2]
theorem yN {s:MtD} {xs ys:List (Int×Int)} (h:xs.length=ys.length):stM A B f s xs ys xs.length=eG (af (valN A) (valN B) f) s xs ys:=by
 unfold stM eG
 rw [if_pos h,List.take_of_length_le (by simp;omega)]
theorem tO {s:MtD} {xs ys:List (Int×Int)} (h:xs.length=ys.length) {k:Nat} (hb:(stM A B f s xs ys k).bad=true):eG (af (valN A) (valN B) f) s xs ys=stM A B f s xs ys k:=by
 unfold stM eG at*
 rw [if_pos h]
 conv=>lhs;rw [←List.take_append_drop k (xs.zip ys),List.foldl_append]
 exact iN _ _ hb
theorem zJ (hG:MtG V0 A B) {s:MtD} {xs ys:List (Int×Int)} (h:xs.length=ys.length) (ok:MtOk A.ns.length B.ns.length s) (vx:av A.ns.length xs) (vy:av B.ns.length ys) (hf:s.left < f) (k:Nat):
  MtOk A.ns.length B.ns.length (stM A B f s xs ys k)∧(stM A B f s xs ys k).left < f:=by
 have pa:=en hG.oa hG.ra
 have pb:=en hG.ob hG.rb
 rw [←cX A,←cX B]at*
 have e:(xs.zip ys).take k=(xs.take k).zip (ys.take k):=by
  exact List.take_zipWith
 unfold stM
 rw [e]
 obtain ⟨h1, -⟩:=ga (ns:=valN A) (ms:=valN B) (f:=f) (ii pa.nodes pb.nodes f) (xs.take k) (ys.take k) s (by simp;omega) ok (fun v hv=>vx v (List.mem_of_mem_take hv)) (fun v hv=>vy v (List.mem_of_mem_take hv)) hf
 exact ⟨h1.ok,Nat.lt_of_le_of_lt (ot (by rw [ok.lt,h1.ok.lt]) h1.sub ok) hf⟩
def ye (V0:World) (A B:GraphD) (b g1 g2 f:Nat):Prop:=∀(s:MtD) (i k:Nat) (V:World),MR V0 A B b g1 g2 s V→MtOk A.ns.length B.ns.length s→s.bad=false→i < A.ns.length→k < B.ns.length→s.left < f→
 Calls Tryz.prog 161 #[.pointer (some ⟨b,0,none⟩),.int .i64 i,.int .i64 k] V fun e w'=>e= .returned (.tuple #[])∧MR V0 A B b g1 g2 (af (valN A) (valN B) f s i k) w'
theorem jW (hG:MtG V0 A B) (hp:ye V0 A B b g1 g2 f) (s:MtD) (xs ys:List (Int×Int)) (A1 A2:Option Addr) (cap1 cap2:Nat) (V:World) (h:MR V0 A B b g1 g2 s V) (ok:MtOk A.ns.length B.ns.length s) (hb:s.bad=false)
  (hx:SpansAt V0 A1 xs) (hy:SpansAt V0 A2 ys) (lx:xs.length≤8796093022208) (ly:ys.length≤8796093022208) (vx:av A.ns.length xs) (vy:av B.ns.length ys) (hf:s.left < f):
  Calls Tryz.prog 130 #[.pointer (some ⟨b,0,none⟩),.slice A1 xs.length cap1,.slice A2 ys.length cap2] V fun e w'=>e= .returned (.tuple #[])∧MR V0 A B b g1 g2 (eG (af (valN A) (valN B) f) s xs ys) w':=by
 have H:=zH h
 have k1:=(aB h.blk).1
 have fk:=(aB h.blk).2
 by_cases hl:xs.length=ys.length
 rotate_left
 ·have hne:((xs.length:Int) !=(ys.length:Int))=true:=by rw [bne_iff_ne];omega
  have HV:Hid (eG (af (valN A) (valN B) f) s xs ys=s.no):=zH (by
   unfold eG
   rw [if_neg hl]
   exact iN _ _ rfl)
  clear hG hp hx hy vx vy hf ok h hl
  go_enter Tryz.func130,Tryz.ntmps130
  go_wp2_with fail
  have HN:=zH H.out.no
  generalize V.setCell ⟨b,6,none⟩ (.bool true)=W at*
  clear k1 fk H
  go_loopw [6] (fun i wr=>i= .int .i64 0∧Hid (MR V0 A B b g1 g2 s.no wr)) (fun i _=>0)
  case atStart=>exact ⟨rfl,HN⟩
  case round=>
   obtain ⟨rfl,HR⟩:=hrel
   have k1:=(aB HR.out.blk).1
   have hbn:s.no.bad=true:=rfl
   rw [hbn]at k1
   by_cases h0:0 < xs.length
   ·have h0':(0:Int) < (xs.length:Int):=by omega
    go_wp2_with fail
    go_returns
    rw [HV.out]
    exact ⟨rfl,HR.out⟩
   ·have h0':xs.length=0:=by omega
    go_wp2_with fail
    go_returns
    rw [HV.out]
    exact ⟨rfl,HR.out⟩
 have hne:((xs.length:Int) !=(ys.length:Int))=false:=by rw [hl];simp
 have HL:=zH hl
 have HP:=zH hp
 have HSX:=zH hx
 have HSY:=zH hy
 have HVX:=zH vx
 have HVY:=zH vy
 have HOK:=zH (fun k=>zJ hG hl ok vx vy hf k)
 have HBB:=zH hb
 clear hp hx hy vx vy hf ok h hl hb k1 fk
 go_enter Tryz.func130,Tryz.ntmps130
 go_wp2_with fail
 go_loopw [6] (fun i wr=>∃k:Nat,k≤xs.length∧i= .int .i64 k∧Hid (MR V0 A B b g1 g2 (stM A B f s xs ys k) wr)) (fun i _=>xs.length - (intOf i).toNat)
 case atStart=>exact ⟨0,by omega,rfl,zH (by have:=H.out;unfold stM;exact this)⟩
 case round=>
  obtain ⟨k,hk,rfl,HR⟩:=hrel
  clear H hne
  have k1:=(aB HR.out.blk).1
  by_cases hlt:k < xs.length
  rotate_left
  ·obtain rfl:k=xs.length:=by omega
   have HA:=zH (yN (A:=A) (B:=B) (f:=f) (s:=s) HL.out)
   generalize stM A B f s xs ys xs.length=t at*
   go_wp2_with fail
   go_returns
   rw [←HA.out]
   exact ⟨rfl,HR.out⟩
  have hlt2:k < ys.length:=by have:=HL.out;omega
  obtain ⟨ho1,ho2⟩:=HOK.out k
  have HO1:=zH ho1
  have HO2:=zH ho2
  have HSU:=zH (ww (A:=A) (B:=B) (f:=f) (s:=s) hlt hlt2)
  have HSB:=zH (fun h=>tO (A:=A) (B:=B) (f:=f) (s:=s) HL.out (k:=k) h)
  have HSB2:=zH (fun h=>tO (A:=A) (B:=B) (f:=f) (s:=s) HL.out (k:=k+1) h)
  obtain ⟨lb,off,rfl,hc⟩:=HSX.out.get oM
  obtain ⟨lb2,off2,rfl,hc2⟩:=HSY.out.get oM
  obtain ⟨e1,e2⟩:=aQ hc hlt
  obtain ⟨e3,e4⟩:=aQ hc2 hlt2
  have hxr:=HR.out.ext
  have c1:=hxr.cell e1
  have c2:=hxr.cell e2
  have c3:=hxr.cell e3
  have c4:=hxr.cell e4
  have hvx:=HVX.out _ (aH (d:=(0,0)) hlt)
  have hvy:=HVY.out _ (aH (d:=(0,0)) hlt2)
  have ib0:(0:Int)≤(k:Int):=by omega
  have ib1:(k:Int) < (xs.length:Int):=by omega
  have ib2:(k:Int) < (ys.length:Int):=by omega
  have HLT:=zH hlt
  clear hc hc2 e1 e2 e3 e4 hxr ho1 ho2 hlt hlt2
  generalize xs.getD k (0,0)=x at*
  generalize ys.getD k (0,0)=y at*
  generalize hT1:stM A B f s xs ys (k+1)=t1 at*
  have HT1:=zH hT1
  clear hT1
  generalize stM A B f s xs ys k=t at*
  obtain ⟨x1,x2⟩:=x
  obtain ⟨y1,y2⟩:=y
  simp only at c1 c2 c3 c4 hvx hvy
  cases hb:t.bad with
  | true=>
   have HE:=zH (HSB.out hb)
   rw [hb]at k1
   clear HSB HSB2 HSU hvx hvy c1 c2 c3 c4 hb
   go_wp2_with fail
   go_returns
   rw [HE.out]
   exact ⟨rfl,HR.out⟩
  | false=>
  have HB:=zH hb
  rw [hb]at k1
  have l1:=(aO HR.out.blk).cells
  rw [hb]at l1
  have l2:=aG c1
  have l3:=aG c2
  have l4:=aG c3
  have l5:=aG c4
  have hs0:Ext wr wr:=zo _
  clear c1 c2 c3 c4 hb HSB
  obtain ⟨wo,rfl⟩:∃wo:World,wo=wr:=⟨_,rfl⟩
  by_cases q1:x1=y1
  rotate_left
  ·have hb1:(x1==y1)=false:=by rw [beq_eq_false_iff_ne];exact q1
   have hb1':(x1 !=y1)=true:=by rw [bne_iff_ne];exact q1
   have HT:Hid (t1=t.no):=zH (by rw [HSU.out];unfold valM;rw [if_neg (by rw [HB.out];decide),if_pos (.inl q1)])
   have HE:Hid (eG (af (valN A) (valN B) f) s xs ys=t.no):=zH (by rw [HSB2.out (by rw [HT.out];rfl),HT.out])
   clear HSB2 HSU hvx hvy q1
   go_wp2_with fail
   (refine aC (W:=wo) kR kR aS ?_;(repeat (go_big_quiet_step (fail)));refine wpQuiet_nil ?_;intro w1 hx)
   have HR1:=zH (HR.out.grow hx)
   have k1:=(aB HR1.out.blk).1
   have fk:=(aB HR1.out.blk).2
   clear l1 l2 l3 l4 l5 hs0 hx
   go_wp2_with fail
   go_returns
   rw [HE.out]
   exact ⟨rfl,HR1.out.no⟩
  subst q1
  by_cases q2:x1=2
  ·subst q2
   have HT:Hid (t1=af (valN A) (valN B) f t x2.toNat y2.toNat):=zH (by rw [HSU.out];unfold valM;rw [if_neg (by rw [HB.out];decide),if_neg sM,if_pos rfl])
   obtain ⟨a1,a2⟩:=hvx rfl
   obtain ⟨a3,a4⟩:=hvy rfl
   obtain ⟨i,rfl⟩:=Int.eq_ofNat_of_zero_le a1
   obtain ⟨j,rfl⟩:=Int.eq_ofNat_of_zero_le a3
   have HI:Hid (i < A.ns.length):=zH oM
   have HJ:Hid (j < B.ns.length):=zH oM
   simp only [Int.toNat_natCast]at HT
   clear HSB2 HSU hvx hvy a1 a2 a3 a4
   go_wp2_with fail
   (refine aC (W:=wo) kR kR aS ?_;(repeat (go_big_quiet_step (fail)));refine wpQuiet_nil ?_;intro w1 hx)
   have HR1:=zH (HR.out.grow hx)
   have c1:=l2 ⟨w1,hx⟩
   have c2:=l3 ⟨w1,hx⟩
   have c3:=l4 ⟨w1,hx⟩
   have c4:=l5 ⟨w1,hx⟩
   simp only at c1 c2 c3 c4
   clear hs0 hx l1 l2 l3 l4 l5
   have l1:=(aO HR1.out.blk).cells
   have l2:=aG c1
   have l3:=aG c2
   have l4:=aG c3
   have l5:=aG c4
   have hs1:Ext w1 w1:=zo _
   obtain ⟨wa,rfl⟩:∃wa:World,wa=w1:=⟨_,rfl⟩
   go_wp2_with fail
   (refine da (W:=wa) 11 kR kR aS ?_;simp only [List.take_succ_cons,List.take_zero,List.drop_succ_cons,List.drop_zero];(repeat (go_big_quiet_step (fail)));refine wpQuiet_nil ?_;intro w1 hx)
   have HR2:=zH (HR1.out.grow hx)
   clear l1 l2 l3 l4 l5 hs1 hx HR1 HR k1
   go_wp2_with fail
   refine (HP.out t i j _ HR2.out HO1.out HB.out HI.out HJ.out HO2.out).mono ?_
   rintro e w5 ⟨rfl,hr⟩
   rw [←HT.out]at hr
   have HR3:=zH hr
   clear hr HR2
   go_wp2_with fail
   go_roundw
   case rel=>exact ⟨k+1,by have:=HLT.out;omega,by go_num,by rw [HT1.out];exact HR3⟩
   case measure=>have:=HLT.out;simp [intOf];omega
  have hb2:(x1==2)=false:=by rw [beq_eq_false_iff_ne];exact q2
  have hb2':(x1 !=2)=true:=by rw [bne_iff_ne];exact q2
  by_cases q3:x2=y2
  ·subst q3
   have HT:Hid (t1=t):=zH (by rw [HSU.out];unfold valM;rw [if_neg (by rw [HB.out];decide),if_neg sM,if_neg q2])
   clear HSB2 HSU hvx hvy q2
   go_wp2_with fail
   (refine aC (W:=wo) kR kR aS ?_;(repeat (go_big_quiet_step (fail)));refine wpQuiet_nil ?_;intro w1 hx)
   have HR1:=zH (HR.out.grow hx)
   have c1:=l2 ⟨w1,hx⟩
   rw [←HT.out]at HR1
   simp only at c1
   clear l1 l2 l3 l4 l5 hs0 hx k1 HR
   go_wp2_with fail
   go_roundw
   case rel=>exact ⟨k+1,by have:=HLT.out;omega,by go_num,by rw [HT1.out];exact HR1⟩
   case measure=>have:=HLT.out;simp [intOf];omega
  ·have hb3:(x2==y2)=false:=by rw [beq_eq_false_iff_ne];exact q3
   have hb3':(x2 !=y2)=true:=by rw [bne_iff_ne];exact q3
   have HT:Hid (t1=t.no):=zH (by rw [HSU.out];unfold valM;rw [if_neg (by rw [HB.out];decide),if_pos (.inr ⟨q2,by simp;exact q3⟩)])
   have HE:Hid (eG (af (valN A) (valN B) f) s xs ys=t.no):=zH (by rw [HSB2.out (by rw [HT.out];rfl),HT.out])
   clear HSB2 HSU hvx hvy q2 q3
   go_wp2_with fail
   (refine aC (W:=wo) kR kR aS ?_;(repeat (go_big_quiet_step (fail)));refine wpQuiet_nil ?_;intro w1 hx)
   have HR1:=zH (HR.out.grow hx)
   have k1:=(aB HR1.out.blk).1
   have fk:=(aB HR1.out.blk).2
   clear l1 l2 l3 l4 l5 hs0 hx
   go_wp2_with fail
   go_returns
   rw [HE.out]
   exact ⟨rfl,HR1.out.no⟩
end
section
variable {V0 : World} {A B : GraphD} {b g1 g2 : Nat}
theorem tP (hG:MtG V0 A B):(∀x∈A.ns,x.fields.length≤4096∧x.raws.length≤4096)∧(∀x∈B.ns,x.fields.length≤4096∧x.raws.length≤4096):=by
 refine ⟨fun x hx=> ?_,fun x hx=> ?_⟩
 ·have:=((fV hG.ra).1 x hx).1
  simp [okN]at this
  omega
 ·have:=((fV hG.rb).1 x hx).1
  simp [okN]at this
  omega
theorem uj (hG:MtG V0 A B):∀f:Nat,ye V0 A B b g1 g2 f:=by
 intro f
 induction f with
 | zero=>intro s i k V _ _ _ _ _ h;omega
 | succ f ih=>
 intro s i k V h ok hb hi hk hf
 have IH:=zH ih
 have HG:=zH hG
 have H:=zH h
 have HOK:=zH ok
 have HBB:=zH hb
 have HF:=zH hf
 have k1:=(aB h.blk).1
 have fk:=(aB h.blk).2
 have ct:=et h.to ok.lt hi
 have ca:=et h.at_ ok.la hk
 obtain ⟨cur1,hc1⟩:=ci h.to
 obtain ⟨cur2,hc2⟩:=ci h.at_
 have f1:=(aB hc1).2
 have f2:=(aB hc2).2
 have ib0:(0:Int)≤(i:Int):=by omega
 have ib1:(i:Int) < (A.ns.length:Int):=by omega
 have ib2:(0:Int)≤(k:Int):=by omega
 have ib3:(k:Int) < (B.ns.length:Int):=by omega
 have ht:=ok.to i hi
 have ha:=ok.at_ k hk
 have HI:=zH hi
 have HK:=zH hk
 by_cases q1:s.to.getD i 0=k∧s.at_.getD k 0=i
 ·obtain ⟨q1,q2⟩:=q1
  have HE:Hid (af (valN A) (valN B) (f+1) s i k=s):=zH (by rw [af,if_pos ⟨q1,q2⟩])
  rw [q1]at ct
  rw [q2]at ca
  clear h ok hb hf ih hG hi hk hc1 hc2 ht ha q1 q2
  go_enter Tryz.func161,Tryz.ntmps161
  go_wp2_with fail
  go_returns
  rw [HE.out]
  exact ⟨rfl,H.out⟩
 by_cases q2:0≤s.to.getD i 0∨0≤s.at_.getD k 0
 ·have HE:Hid (af (valN A) (valN B) (f+1) s i k=s.no):=zH (by rw [af,if_neg q1,if_pos q2])
  clear h ok hb hf ih hG hi hk hc1 hc2
  rcases ht with ht | ⟨c,hc,ht,ht2⟩
  ·rcases ha with ha | ⟨d,hd,ha,ha2⟩
   ·omega
   rw [ht]at ct
   rw [ha]at ca
   have n1:((-1:Int)==(k:Int))=false:=by rw [beq_eq_false_iff_ne];omega
   clear q1 q2 ht ha ha2 hd
   go_enter Tryz.func161,Tryz.ntmps161
   go_wp2_with fail
   go_returns
   rw [HE.out]
   exact ⟨rfl,H.out.no⟩
  ·have n1 : ((c : Int) == (k : Int)) = false := by
    rw [beq_eq_false_iff_ne]
    intro e
    have:c=k:=by omega
    subst this
    exact q1 ⟨ht,ht2⟩
   rw [ht]at ct
   clear q1 q2 ht ht2 hc ha
   go_enter Tryz.func161,Tryz.ntmps161
   go_wp2_with fail
   go_returns
   rw [HE.out]
   exact ⟨rfl,H.out.no⟩
 have e1:s.to.getD i 0= -1:=by
  rcases ht with ht | ⟨c,hc,ht,ht2⟩
  ·exact ht
  ·omega
 have e2:s.at_.getD k 0= -1:=by
  rcases ha with ha | ⟨d,hd,ha,ha2⟩
  ·exact ha
  ·omega
 have hp:=ok.pair (i:=i) (k:=k) hi hk oM oM
 have hlf:=jU (k:=k) ok hi oM
 have n1:((-1:Int)==(k:Int))=false:=by rw [beq_eq_false_iff_ne];omega
 rw [e1]at ct
 rw [e2]at ca
 have H2:=h.set ok.lt ok.la i k
 have HPR : Hid (af (valN A) (valN B) (f + 1) s i k = if (A.ns.getD i default).kind ≠ (B.ns.getD k default).kind ∨ (A.ns.getD i default).raws ≠ (B.ns.getD k default).raws then MtD.no ⟨s.to.set i k, s.at_.set k i, s.bad⟩
   else eG (af (valN A) (valN B) f) ⟨s.to.set i k,s.at_.set k i,s.bad⟩ (A.ns.getD i default).fields (B.ns.getD k default).fields):=zH (by
  rw [af,if_neg q1,if_neg q2,dY hi,dY hk]
  rfl)
 obtain ⟨nb,noff,hA,hcn⟩:=hG.a.nodes.row.get oM
 obtain ⟨nb2,noff2,hA2,hcn2⟩:=hG.b.nodes.row.get oM
 obtain ⟨d0,d1,d2⟩:=bB hcn hi
 obtain ⟨d3,d4,d5⟩:=bB hcn2 hk
 have D0:=zH d0
 have D1:=zH d1
 have D2:=zH d2
 have D3:=zH d3
 have D4:=zH d4
 have D5:=zH d5
 have HNA:=zH (hG.a.nodes.each _ (aH (d:=default) hi))
 have HNB:=zH (hG.b.nodes.each _ (aH (d:=default) hk))
 have HFA:=zH ((tP hG).1 _ (aH (d:=default) hi))
 have HFB:=zH ((tP hG).2 _ (aH (d:=default) hk))
 have HVA:Hid (av A.ns.length (A.ns.getD i default).fields):=zH (by
  have:=(en hG.oa hG.ra).nodes _ (bF (d:=(0,[],[])) (by rw [cX];exact hi))
  rw [dY hi,cX]at this
  exact this)
 have HVB:Hid (av B.ns.length (B.ns.getD k default).fields):=zH (by
  have:=(en hG.ob hG.rb).nodes _ (bF (d:=(0,[],[])) (by rw [cX];exact hk))
  rw [dY hk,cX]at this
  exact this)
 have HP2:=zH hp
 have HLF:Hid (MtD.left ⟨s.to.set i k,s.at_.set k i,s.bad⟩ < f):=zH oM
 have HR2:=zH H2
 have hb2:(⟨s.to.set i k,s.at_.set k i,s.bad⟩:MtD).bad=false:=hb
 have HBD:=zH hb2
 have HAA:=zH hA
 have HAB:=zH hA2
 have hne:g1≠g2:=h.ne
 have hnb:=h.neb
 clear h ok hb hf ih hG hi hk hcn hcn2 d0 d1 d2 d3 d4 d5 ht ha q1 q2 e1 e2 hp hlf H2 hA hA2 hb2
 generalize A.ns.getD i default=x at*
 generalize B.ns.getD k default=y at*
 go_enter Tryz.func161,Tryz.ntmps161
 go_wp2_with fail
 generalize (V.setCell ⟨g1,i,none⟩ (.int .i64 (k:Nat))).setCell ⟨g2,k,none⟩ (.int .i64 (i:Nat))=W2 at*
 have hx2:=HR2.out.ext
 have l1:=(aO HR2.out.blk).cells
 simp only [HAA.out,HAB.out]at l1
 have l2:=aG (hx2.cell D0.out)
 have l3:=aG (hx2.cell D1.out)
 have l4:=aG (hx2.cell D2.out)
 have l5:=aG (hx2.cell D3.out)
 have l6:=aG (hx2.cell D4.out)
 have l7:=aG (hx2.cell D5.out)
 have hs0:Ext W2 W2:=zo _
 clear k1 fk ct ca f1 f2 hc1 hc2 H HOK n1 hne hnb hx2
 refine fB (fun w'=>∃u:ExtOf W2,w'=u.1) [0,1,2,3,4,5,6,7,8,9,10,11,12,13,14,15] 4 [(16,[(17,[(18,[(19,())])])]),(17,[(16,[(18,[(19,())])])])] [] kR kR (by intro c a d v w h;cases d <;>exact h) ⟨⟨_,(zo W2).drew⟩,rfl⟩ ?_
 simp only [aI,List.map_cons,List.map_nil,List.getD_cons_zero,List.getD_cons_succ]
 (repeat (go_big_quiet_step (fail)))
 refine wpQuiet_nil ?_
 have hs1:Ext W2 W2.drew:=(zo W2).drew
 generalize W2.drew=w0 at*
 refine kV ?_ ?_
 ·(refine cL rM ?_;intro K hK;go_simp;refine hK _ _ (jj ?_) ?_;(focus exact zF);clear hK K)
  refine db ?_
  (refine cL rM ?_;intro K hK;go_simp;refine hK _ _ (jj ?_) ?_;(focus exact zF);clear hK K)
  refine db ?_
  (refine cL rM ?_;intro K hK;go_simp;refine hK _ _ (jj ?_) ?_;(focus exact zF);clear hK K)
  refine db ?_
  (refine cL rM ?_;intro K hK;go_simp;refine hK _ _ (jj ?_) ?_;(focus exact zF);clear hK K)
  refine oJ ?_
  have hx5:Ext W2 ((w0.alloc (.cells #[.int .i64 x.kind,.slice x.fA x.fields.length x.fcap,.slice x.rA x.raws.length x.rcap] 66)).alloc (.cells #[.int .i64 y.kind,.slice y.fA y.fields.length y.fcap,.slice y.rA y.raws.length y.rcap] 66)):=(hs1.alloc _).alloc _
  have hb0:((w0.alloc (.cells #[.int .i64 x.kind,.slice x.fA x.fields.length x.fcap,.slice x.rA x.raws.length x.rcap] 66)).alloc (.cells #[.int .i64 y.kind,.slice y.fA y.fields.length y.fcap,.slice y.rA y.raws.length y.rcap] 66)).heap[w0.heap.size]?=some (.cells #[.int .i64 x.kind,.slice x.fA x.fields.length x.fcap,.slice x.rA x.raws.length x.rcap] 66 (0,0)):=bN (aN w0 _ _ _ rfl)
  have hb1:((w0.alloc (.cells #[.int .i64 x.kind,.slice x.fA x.fields.length x.fcap,.slice x.rA x.raws.length x.rcap] 66)).alloc (.cells #[.int .i64 y.kind,.slice y.fA y.fields.length y.fcap,.slice y.rA y.raws.length y.rcap] 66)).heap[w0.heap.size+1]?=some (.cells #[.int .i64 y.kind,.slice y.fA y.fields.length y.fcap,.slice y.rA y.raws.length y.rcap] 66 (0,0)):=aN (w0.alloc (.cells #[.int .i64 x.kind,.slice x.fA x.fields.length x.fcap,.slice x.rA x.raws.length x.rcap] 66)) _ _ _ sM
  generalize (w0.alloc (.cells #[.int .i64 x.kind,.slice x.fA x.fields.length x.fcap,.slice x.rA x.raws.length x.rcap] 66)).alloc (.cells #[.int .i64 y.kind,.slice y.fA y.fields.length y.fcap,.slice y.rA y.raws.length y.rcap] 66)=w5 at*
  generalize w0.heap.size+1=Y at*
  generalize w0.heap.size=X at*
  have hbx:=hb0
  have hby:=hb1
  clear hb0 hb1
  clear l1 l2 l3 l4 l5 l6 l7 hs0 hs1
  have HR5:=zH (HR2.out.grow hx5)
  have HBX:=zH hbx
  have HBY:=zH hby
  have kx:=(aB hbx).1
  have ky:=(aB hby).1
  have k1:=(aB HR5.out.blk).1
  have fk:=(aB HR5.out.blk).2
  have hx0:=HR5.out.ext
  have HX0:=zH hx0
  clear hbx hby hx5 hx0 HR2
  by_cases hk1:x.kind=y.kind
  rotate_left
  ·have hd:(x.kind !=y.kind)=true:=by simpa using hk1
   have HE:Hid (af (valN A) (valN B) (f+1) s i k=MtD.no ⟨s.to.set i k,s.at_.set k i,s.bad⟩):=zH (by rw [HPR.out,if_pos (.inl hk1)])
   clear hk1
   go_wp2_with fail
   go_returns
   rw [HE.out]
   exact ⟨rfl,HR5.out.no⟩
  have hd:(x.kind !=y.kind)=false:=by simpa using hk1
  have HK1:=zH hk1
  obtain ⟨c,hc⟩:∃c,decide (x.raws=y.raws)=c:=⟨_,rfl⟩
  have HC:=zH hc
  clear hk1 hc
  go_wp2_with fail
  refine (ji x.rA y.rA x.rcap y.rcap x.raws y.raws c HC.out _ (by have:=HFA.out;omega) (by have:=HFB.out;omega) (HNA.out.raws.ext HX0.out) (HNB.out.raws.ext HX0.out)).mono ?_
  rintro e w6 ⟨rfl,hx6⟩
  have HR6:=zH (HR5.out.grow hx6)
  have hbx6:=(hx6.block (aA HBX.out)).trans HBX.out
  have hby6:=(hx6.block (aA HBY.out)).trans HBY.out
  clear kx ky k1 fk hx6 HX0 HBX HBY
  have kx:=(aB hbx6).1
  have ky:=(aB hby6).1
  have k1:=(aB HR6.out.blk).1
  have fk:=(aB HR6.out.blk).2
  clear hbx6 hby6 HR5
  cases c
  ·have HE:Hid (af (valN A) (valN B) (f+1) s i k=MtD.no ⟨s.to.set i k,s.at_.set k i,s.bad⟩):=zH (by rw [HPR.out,if_pos (.inr (of_decide_eq_false HC.out))])
   go_wp2_with fail
   go_returns
   rw [HE.out]
   exact ⟨rfl,HR6.out.no⟩
  ·have HE:Hid (af (valN A) (valN B) (f+1) s i k=eG (af (valN A) (valN B) f) ⟨s.to.set i k,s.at_.set k i,s.bad⟩ x.fields y.fields):=zH (by rw [HPR.out,if_neg (by simp only [not_or,Classical.not_not];exact ⟨HK1.out,of_decide_eq_true HC.out⟩)])
   go_wp2_with fail
   refine (jW HG.out IH.out _ x.fields y.fields x.fA y.fA x.fcap y.fcap _ HR6.out HP2.out HBD.out HNA.out.fields HNB.out.fields (by have:=HFA.out;omega) (by have:=HFB.out;omega) HVA.out HVB.out HLF.out).mono ?_
   rintro e w7 ⟨rfl,hr⟩
   rw [←HE.out]at hr
   have HR7:=zH hr
   clear hr kx ky k1 fk HR6
   go_wp2_with fail
   go_returns
   exact ⟨rfl,HR7.out⟩
 ·(refine cL rM ?_;intro K hK;go_simp;refine hK _ _ (jj ?_) ?_;(focus exact zF);clear hK K)
  refine db ?_
  (refine cL rM ?_;intro K hK;go_simp;refine hK _ _ (jj ?_) ?_;(focus exact zF);clear hK K)
  refine db ?_
  (refine cL rM ?_;intro K hK;go_simp;refine hK _ _ (jj ?_) ?_;(focus exact zF);clear hK K)
  refine db ?_
  (refine cL rM ?_;intro K hK;go_simp;refine hK _ _ (jj ?_) ?_;(focus exact zF);clear hK K)
  refine oJ ?_
  have hx5:Ext W2 ((w0.alloc (.cells #[.int .i64 y.kind,.slice y.fA y.fields.length y.fcap,.slice y.rA y.raws.length y.rcap] 66)).alloc (.cells #[.int .i64 x.kind,.slice x.fA x.fields.length x.fcap,.slice x.rA x.raws.length x.rcap] 66)):=(hs1.alloc _).alloc _
  have hb0:((w0.alloc (.cells #[.int .i64 y.kind,.slice y.fA y.fields.length y.fcap,.slice y.rA y.raws.length y.rcap] 66)).alloc (.cells #[.int .i64 x.kind,.slice x.fA x.fields.length x.fcap,.slice x.rA x.raws.length x.rcap] 66)).heap[w0.heap.size]?=some (.cells #[.int .i64 y.kind,.slice y.fA y.fields.length y.fcap,.slice y.rA y.raws.length y.rcap] 66 (0,0)):=bN (aN w0 _ _ _ rfl)
  have hb1:((w0.alloc (.cells #[.int .i64 y.kind,.slice y.fA y.fields.length y.fcap,.slice y.rA y.raws.length y.rcap] 66)).alloc (.cells #[.int .i64 x.kind,.slice x.fA x.fields.length x.fcap,.slice x.rA x.raws.length x.rcap] 66)).heap[w0.heap.size+1]?=some (.cells #[.int .i64 x.kind,.slice x.fA x.fields.length x.fcap,.slice x.rA x.raws.length x.rcap] 66 (0,0)):=aN (w0.alloc (.cells #[.int .i64 y.kind,.slice y.fA y.fields.length y.fcap,.slice y.rA y.raws.length y.rcap] 66)) _ _ _ sM
  generalize (w0.alloc (.cells #[.int .i64 y.kind,.slice y.fA y.fields.length y.fcap,.slice y.rA y.raws.length y.rcap] 66)).alloc (.cells #[.int .i64 x.kind,.slice x.fA x.fields.length x.fcap,.slice x.rA x.raws.length x.rcap] 66)=w5 at*
  generalize w0.heap.size+1=Y at*
  generalize w0.heap.size=X at*
  have hby:=hb0
  have hbx:=hb1
  clear hb0 hb1
  clear l1 l2 l3 l4 l5 l6 l7 hs0 hs1
  have HR5:=zH (HR2.out.grow hx5)
  have HBX:=zH hbx
  have HBY:=zH hby
  have kx:=(aB hbx).1
  have ky:=(aB hby).1
  have k1:=(aB HR5.out.blk).1
  have fk:=(aB HR5.out.blk).2
  have hx0:=HR5.out.ext
  have HX0:=zH hx0
  clear hbx hby hx5 hx0 HR2
  by_cases hk1:x.kind=y.kind
  rotate_left
  ·have hd:(x.kind !=y.kind)=true:=by simpa using hk1
   have HE:Hid (af (valN A) (valN B) (f+1) s i k=MtD.no ⟨s.to.set i k,s.at_.set k i,s.bad⟩):=zH (by rw [HPR.out,if_pos (.inl hk1)])
   clear hk1
   go_wp2_with fail
   go_returns
   rw [HE.out]
   exact ⟨rfl,HR5.out.no⟩
  have hd:(x.kind !=y.kind)=false:=by simpa using hk1
  have HK1:=zH hk1
  obtain ⟨c,hc⟩:∃c,decide (x.raws=y.raws)=c:=⟨_,rfl⟩
  have HC:=zH hc
  clear hk1 hc
  go_wp2_with fail
  refine (ji x.rA y.rA x.rcap y.rcap x.raws y.raws c HC.out _ (by have:=HFA.out;omega) (by have:=HFB.out;omega) (HNA.out.raws.ext HX0.out) (HNB.out.raws.ext HX0.out)).mono ?_
  rintro e w6 ⟨rfl,hx6⟩
  have HR6:=zH (HR5.out.grow hx6)
  have hbx6:=(hx6.block (aA HBX.out)).trans HBX.out
  have hby6:=(hx6.block (aA HBY.out)).trans HBY.out
  clear kx ky k1 fk hx6 HX0 HBX HBY
  have kx:=(aB hbx6).1
  have ky:=(aB hby6).1
  have k1:=(aB HR6.out.blk).1
  have fk:=(aB HR6.out.blk).2
  clear hbx6 hby6 HR5
  cases c
  ·have HE:Hid (af (valN A) (valN B) (f+1) s i k=MtD.no ⟨s.to.set i k,s.at_.set k i,s.bad⟩):=zH (by rw [HPR.out,if_pos (.inr (of_decide_eq_false HC.out))])
   go_wp2_with fail
   go_returns
   rw [HE.out]
   exact ⟨rfl,HR6.out.no⟩
  ·have HE:Hid (af (valN A) (valN B) (f+1) s i k=eG (af (valN A) (valN B) f) ⟨s.to.set i k,s.at_.set k i,s.bad⟩ x.fields y.fields):=zH (by rw [HPR.out,if_neg (by simp only [not_or,Classical.not_not];exact ⟨HK1.out,of_decide_eq_true HC.out⟩)])
   go_wp2_with fail
   refine (jW HG.out IH.out _ x.fields y.fields x.fA y.fA x.fcap y.fcap _ HR6.out HP2.out HBD.out HNA.out.fields HNB.out.fields (by have:=HFA.out;omega) (by have:=HFB.out;omega) HVA.out HVB.out HLF.out).mono ?_
   rintro e w7 ⟨rfl,hr⟩
   rw [←HE.out]at hr
   have HR7:=zH hr
   clear hr kx ky k1 fk HR6
   go_wp2_with fail
   go_returns
   exact ⟨rfl,HR7.out⟩
end
def Box2K (b:Nat) (cs:Array Value) (t:TypeId) (b2:Nat) (cs2:Array Value) (t2:TypeId) (w:World):Prop:=w.heap[b]?=some (.cells cs t (0,0))∧w.heap[b2]?=some (.cells cs2 t2 (0,0))
section
variable {b : Nat} {cs : Array Value} {t : TypeId} {b2 : Nat} {cs2 : Array Value} {t2 : TypeId} {W W' : World}
theorem Box2K.one (h:Box2K b cs t b2 cs2 t2 W) (u:KeptOf W (Box2K b cs t b2 cs2 t2)) (i:Nat):u.1.cell? ⟨b,i,none⟩=cs[i]?:=(aB (u.of h).1).1 i
theorem Box2K.two (h:Box2K b cs t b2 cs2 t2 W) (u:KeptOf W (Box2K b cs t b2 cs2 t2)) (i:Nat):u.1.cell? ⟨b2,i,none⟩=cs2[i]?:=(aB (u.of h).2).1 i
theorem Box2K.ext (h:Box2K b cs t b2 cs2 t2 W) (hx:Ext W W'):Box2K b cs t b2 cs2 t2 W':=⟨(hx.block (aA h.1)).trans h.1,(hx.block (aA h.2)).trans h.2⟩
end
def mtS (A B:GraphD):List Int:=if bX A B then lZ A.ns.length (ordG A) (ordG B)else []
def tQ (V:World) (A B:GraphD) (e:Ending) (w':World):Prop:=
 ∃A0 cap,e= .returned (.tuple #[.slice A0 (mtS A B).length cap,.bool (bX A B)])∧Own 3 1 intC w' V.heap.size (.slice A0 (mtS A B).length cap) (mtS A B)∧Ext V w'
theorem ik {V w:World} {A B:GraphD} (h:bX A B=false) (hx:Ext V w):tQ V A B (.returned (.tuple #[.slice none 0 0,.bool false])) w:=by
 have e:mtS A B= []:=by unfold mtS;rw [h];rfl
 unfold tQ
 rw [e,h]
 exact ⟨none,0,rfl,AA _ _ _ _ _,hx⟩
theorem uk {n:Nat} {o p:List Nat}:(lZ n o p).length=n:=by simp [lZ]
theorem sO (A B:GraphD) (V:World) (hA:GraphAt V A) (hB:GraphAt V B) (oA:GOk A) (oB:GOk B):
  Calls Tryz.prog 76 #[.agg #[.slice A.nA A.ns.length A.ncap,.slice A.rA A.rs.length A.rcap],.agg #[.slice B.nA B.ns.length B.ncap,.slice B.rA B.rs.length B.rcap]] V (tQ V A B):=by
 have hx0:=((zo V).alloc (.cells #[.slice A.nA A.ns.length A.ncap,.slice A.rA A.rs.length A.rcap] 27)).alloc (.cells #[.slice B.nA B.ns.length B.ncap,.slice B.rA B.rs.length B.rcap] 27)
 have hba:=(aF V #[.slice A.nA A.ns.length A.ncap,.slice A.rA A.rs.length A.rcap] 27 _ rfl).re ((zo _).alloc (.cells #[.slice B.nA B.ns.length B.ncap,.slice B.rA B.rs.length B.rcap] 27))
 have hbb:=aF (V.alloc (.cells #[.slice A.nA A.ns.length A.ncap,.slice A.rA A.rs.length A.rcap] 27)) #[.slice B.nA B.ns.length B.ncap,.slice B.rA B.rs.length B.rcap] 27 (V.heap.size+1) sM
 have HX:=zH hx0
 have HA:=zH (hA.ext hx0)
 have HB:=zH (hB.ext hx0)
 have HBA:=zH hba
 have HBB:=zH hbb
 have HOA:=zH oA
 have HOB:=zH oB
 have ka:=(aB hba.here).1
 have kb:=(aB hbb.here).1
 clear hx0 hA hB oA oB hba hbb
 cases hra:aR A with
 | false=>
  have HR:=zH hra
  have HN:Hid (bX A B=false):=zH (by unfold bX;rw [hra];rfl)
  clear hra
  go_enter Tryz.func76,Tryz.ntmps76
  go_wp2_with fail
  refine (eH A false HR.out _ HA.out HOA.out).mono ?_
  rintro e w1 ⟨rfl,hx⟩
  replace HX:=zH (HX.out.trans hx)
  clear hx ka kb
  go_wp2_with fail
  go_returns
  exact ik HN.out HX.out
 | true=>
 have HRA:=zH hra
 cases hrb:aR B with
 | false=>
  have HR:=zH hrb
  have HN:Hid (bX A B=false):=zH (by unfold bX;rw [hrb,Bool.and_false];rfl)
  clear hra hrb
  go_enter Tryz.func76,Tryz.ntmps76
  go_wp2_with fail
  refine (eH A true HRA.out _ HA.out HOA.out).mono ?_
  rintro e w1 ⟨rfl,hx⟩
  replace HX:=zH (HX.out.trans hx)
  replace HB:=zH (HB.out.ext hx)
  replace HBB:=zH (HBB.out.re hx)
  have kb:=(aB HBB.out.here).1
  clear hx ka
  go_wp2_with fail
  refine (eH B false HR.out _ HB.out HOB.out).mono ?_
  rintro e w2 ⟨rfl,hx⟩
  replace HX:=zH (HX.out.trans hx)
  clear hx kb
  go_wp2_with fail
  go_returns
  exact ik HN.out HX.out
 | true=>
 have HRB:=zH hrb
 have HMA:=zH (ql HOA.out HOB.out hra hrb)
 have HNA:Hid (A.ns.length≤1000):=zH (by have:=HOA.out.2.1;omega)
 have HNB:Hid (B.ns.length≤1000):=zH (by have:=HOB.out.2.1;omega)
 clear hra hrb
 go_enter Tryz.func76,Tryz.ntmps76
 go_wp2_with fail
 refine (eH A true HRA.out _ HA.out HOA.out).mono ?_
 rintro e w1 ⟨rfl,hx⟩
 replace HX:=zH (HX.out.trans hx)
 replace HA:=zH (HA.out.ext hx)
 replace HB:=zH (HB.out.ext hx)
 replace HBA:=zH (HBA.out.re hx)
 replace HBB:=zH (HBB.out.re hx)
 have kb:=(aB HBB.out.here).1
 clear hx ka
 go_wp2_with fail
 refine (eH B true HRB.out _ HB.out HOB.out).mono ?_
 rintro e w2 ⟨rfl,hx⟩
 replace HX:=zH (HX.out.trans hx)
 replace HA:=zH (HA.out.ext hx)
 replace HB:=zH (HB.out.ext hx)
 replace HBA:=zH (HBA.out.re hx)
 replace HBB:=zH (HBB.out.re hx)
 clear hx kb
 go_wp2_with fail
 have hyd:=(zo w2).drew
 have hGP:Box2K V.heap.size #[.slice A.nA A.ns.length A.ncap,.slice A.rA A.rs.length A.rcap] 27 (V.heap.size+1) #[.slice B.nA B.ns.length B.ncap,.slice B.rA B.rs.length B.rcap] 27 w2.drew:=⟨HBA.out.at hyd,HBB.out.at hyd⟩
 have gB:=hGP.one
 have g1:=hGP.two
 (refine dI (w:=w2) (fun w'=>∃u:KeptOf (w2).drew (Box2K V.heap.size #[.slice A.nA A.ns.length A.ncap,.slice A.rA A.rs.length A.rcap] 27 (V.heap.size+1) #[.slice B.nA B.ns.length B.ncap,.slice B.rA B.rs.length B.rcap] 27),w'=u.1) (.rd [0,1,2,3,4,6,7,8] (.one 5 (.one 9 .tl))) [10,11,12] kR kR (by intro c a d v w h;first | exact h | (cases d <;>first | exact h | (cases h;done) | cases h.1.1 | cases h.1)) (ae hGP) ?_)
 (refine jZ ?_;(try simp only [aI,List.map_cons,List.map_nil,List.getD_cons_zero,List.getD_cons_succ]);(repeat (go_big_quiet_step (fail)));refine wpQuiet_nil ?_)
 replace HX:=zH (HX.out.trans hyd)
 replace HA:=zH (HA.out.ext hyd)
 replace HB:=zH (HB.out.ext hyd)
 have HGP:=zH hGP
 clear hyd hGP gB g1 HBA HBB
 generalize w2.drew=W0 at*
 (refine cE gD rM ?_;intro K hK;go_simp)
 refine (nO A.ns.length _ (by have:=HNA.out;omega)).mono ?_
 rintro e w3 ⟨g1,rfl,ho1,hx1⟩
 refine hK _ _ _ (fun _ h=>h) (ae (HGP.out.ext hx1)) ?_
 clear hK K
 (refine cE gD rM ?_;intro K hK;go_simp)
 refine (nO B.ns.length _ (by have:=HNB.out;omega)).mono ?_
 rintro e w4 ⟨g2,rfl,ho2,hx2⟩
 refine hK _ _ _ (fun _ h=>h) (ae ((HGP.out.ext hx1).ext hx2)) ?_
 clear hK K
 (refine kW ?_;(try simp only [aI,List.map_cons,List.map_nil,List.getD_cons_zero,List.getD_cons_succ]))
 have hx3:=(hx1.trans hx2).alloc (.cells #[.slice A.nA A.ns.length A.ncap,.slice A.rA A.rs.length A.rcap,.slice B.nA B.ns.length B.ncap,.slice B.rA B.rs.length B.rcap,.slice (some ⟨g1,0,none⟩) A.ns.length A.ns.length,.slice (some ⟨g2,0,none⟩) B.ns.length B.ns.length,.bool false] 175)
 have hy4:=(zo w4).alloc (.cells #[.slice A.nA A.ns.length A.ncap,.slice A.rA A.rs.length A.rcap,.slice B.nA B.ns.length B.ncap,.slice B.rA B.rs.length B.rcap,.slice (some ⟨g1,0,none⟩) A.ns.length A.ns.length,.slice (some ⟨g2,0,none⟩) B.ns.length B.ns.length,.bool false] 175)
 have HM:=zH (show MR W0 A B w4.heap.size g1 g2 ⟨List.replicate A.ns.length (-1),List.replicate B.ns.length (-1),false⟩ (w4.alloc (.cells #[.slice A.nA A.ns.length A.ncap,.slice A.rA A.rs.length A.rcap,.slice B.nA B.ns.length B.ncap,.slice B.rA B.rs.length B.rcap,.slice (some ⟨g1,0,none⟩) A.ns.length A.ns.length,.slice (some ⟨g2,0,none⟩) B.ns.length B.ns.length,.bool false] 175))from
  ⟨aN _ _ _ _ rfl,(ho1.ext hx2).ext hy4,(ho2.mono hx1.size).ext hy4,by have h1:g1 < w3.heap.size:=(bM ho1 rfl).2;have h2:w3.heap.size≤g2:=(bM ho2 rfl).1;omega,hx3,(hx1.trans hx2).size⟩)
 have HGP2:=zH (HGP.out.ext hx3)
 clear ho1 ho2 hx1 hx2 hx3 hy4 HGP
 have ka:=(aB HGP2.out.1).1
 have kb:=(aB HGP2.out.2).1
 go_wp2_with fail
 clear ka kb HGP2
 generalize w4.alloc (.cells #[.slice A.nA A.ns.length A.ncap,.slice A.rA A.rs.length A.rcap,.slice B.nA B.ns.length B.ncap,.slice B.rA B.rs.length B.rcap,.slice (some ⟨g1,0,none⟩) A.ns.length A.ns.length,.slice (some ⟨g2,0,none⟩) B.ns.length B.ns.length,.bool false] 175)=W4 at*
 generalize w4.heap.size=b at*
 have HG:Hid (MtG W0 A B):=zH ⟨HA.out,HB.out,HOA.out,HOB.out,HRA.out,HRB.out⟩
 have pa:=en HOA.out HRA.out
 have pb:=en HOB.out HRB.out
 have HVA:Hid (av A.ns.length A.rs):=zH (by have:=pa.roots;rwa [cX]at this)
 have HVB:Hid (av B.ns.length B.rs):=zH (by have:=pb.roots;rwa [cX]at this)
 clear pa pb
 refine (jW HG.out (uj HG.out (A.ns.length+1)) _ A.rs B.rs A.rA B.rA A.rcap B.rcap _ HM.out MtOk.new rfl HA.out.roots HB.out.roots (by have:=HOA.out.1.rl;omega) (by have:=HOB.out.1.rl;omega) HVA.out HVB.out (by rw [qa];omega)).mono ?_
 rintro e w5 ⟨rfl,hr⟩
 have hmm:eG (af (valN A) (valN B) (A.ns.length+1)) ⟨List.replicate A.ns.length (-1),List.replicate B.ns.length (-1),false⟩ A.rs B.rs=cJ (valN A) A.rs (valN B) B.rs:=by
  unfold cJ
  rw [cX,cX]
 rw [hmm]at hr
 have HR:=zH hr
 have k1:=(aB hr.blk).1
 obtain ⟨m1,m2⟩:=HMA.out
 have M2:=zH m2
 rw [m1]at k1
 clear hr hmm m1 m2 HM
 cases hal:bX A B with
 | false=>
  have HAL:=zH hal
  rw [hal]at k1
  simp only [Bool.not_false]at k1
  clear hal
  go_wp2_with fail
  go_returns
  have:=ik (V:=V) HAL.out (HX.out.trans HR.out.ext)
  exact this
 | true=>
  have HAL:=zH hal
  rw [hal]at k1
  simp only [Bool.not_true]at k1
  clear hal
  go_wp2_with fail
  go_returns
  have e1:mtS A B=(cJ (valN A) A.rs (valN B) B.rs).to:=by rw [mtS,if_pos HAL.out,(M2.out HAL.out).1]
  have e2:(mtS A B).length=A.ns.length:=by rw [mtS,if_pos HAL.out,uk]
  refine ⟨some ⟨g1,0,none⟩,A.ns.length,by rw [e2,HAL.out];rfl,?_,HX.out.trans HR.out.ext⟩
  rw [e2,e1]
  exact HR.out.to.mono HX.out.size
theorem bZ {α:Type} {e:TypeId} {n:Nat} {f:α→List Value} {w:World} {B:Nat} {v:Value} {xs:List α} (h:Own e n f w B v xs) {g:Nat} (hv:v.ownBlock=some g):∃cur,w.heap[g]?=some (.cells cur e (0,0)):=by
 rcases h.2 with ⟨rfl,_⟩ | ⟨g',cap,cur,rfl,_,hg,_⟩
 ·cases hv
 ·injection hv with hv
  simp only at hv
  subst hv
  exact ⟨cur,hg⟩
theorem eU {w:World} {B:Nat} {v:Value} {xs:List Int} (h:OwnO w B v xs) {g:Nat} (hv:v.ownBlock=some g):∃cur,w.heap[g]?=some (.cells cur 3 (0,0)):=by
 rcases h with ⟨rfl,_⟩ | ⟨g',off,cap,cur,rfl,_,hg,_⟩
 ·cases hv
 ·injection hv with hv
  simp only at hv
  subst hv
  exact ⟨cur,hg⟩
structure PR (V0:World) (sv bv kv lv pv mv:Value) (mp nm:Nat) (f:Int→Value) (Y:Int→List Nat) (ms:List Bool) (p:PlD) (w:World):Prop where
 os:Own 3 1 intC w V0.heap.size sv (ordZ p.small)
 ob:Own 3 1 intC w V0.heap.size bv (ordZ p.begins)
 ok:Own 4 1 e6 w V0.heap.size kv p.lk
 ol:Own 3 1 intC w V0.heap.size lv (ordZ p.large)
 op:Own 3 1 intC w V0.heap.size pv (ordZ p.pile)
 om:Own 4 1 e6 w V0.heap.size mv ms
 mpv:MapV w mp nm f
 fam:∀c,OwnO w V0.heap.size (f c) (ordZ (Y c))
 sep:Sep [sv,bv,kv,lv,pv,mv]
 sepf:∀v∈ [sv,bv,kv,lv,pv,mv],∀c g,v.ownBlock=some g→(f c).ownBlock≠some g
 sepc:∀c c' g,c≠c'→(f c).ownBlock=some g→(f c').ownBlock≠some g
 mlo:V0.heap.size≤mp
 ext:Ext V0 w
section
variable {V0 : World} {sv bv kv lv pv mv : Value} {mp nm : Nat} {f : Int → Value} {Y : Int → List Nat} {ms : List Bool} {p : PlD} {w w' : World}
theorem PR.grow (h:PR V0 sv bv kv lv pv mv mp nm f Y ms p w) (hx:Ext w w'):PR V0 sv bv kv lv pv mv mp nm f Y ms p w':=
 ⟨h.os.ext hx,h.ob.ext hx,h.ok.ext hx,h.ol.ext hx,h.op.ext hx,h.om.ext hx,h.mpv.ext hx,fun c=>(h.fam c).ext hx,h.sep,h.sepf,h.sepc,h.mlo,h.ext.trans hx⟩
theorem PR.lt (h:PR V0 sv bv kv lv pv mv mp nm f Y ms p w):∀v∈ [sv,bv,kv,lv,pv,mv],∀g,v.ownBlock=some g→g < w.heap.size:=by
 intro v hv g hg
 simp only [List.mem_cons,List.not_mem_nil,or_false]at hv
 rcases hv with rfl | rfl | rfl | rfl | rfl | rfl
 ·exact (bM h.os hg).2
 ·exact (bM h.ob hg).2
 ·exact (bM h.ok hg).2
 ·exact (bM h.ol hg).2
 ·exact (bM h.op hg).2
 ·exact (bM h.om hg).2
theorem PR.turn_s (h:PR V0 sv bv kv lv pv mv mp nm f Y ms p w) {x:Value} {ys:List Nat} (ho:Own 3 1 intC w' V0.heap.size x (ordZ ys)) (hg:w.grownBy w' sv.ownBlock)
  (hx:x.ownBlock=sv.ownBlock∨x.ownBlock=none∨∃k,w.heap.size≤k∧x.ownBlock=some k):PR V0 x bv kv lv pv mv mp nm f Y ms {p with small:=ys} w':=by
 have hm:sv∈ [sv,bv,kv,lv,pv,mv]:=by simp
 refine ⟨ho,h.ob.kept hg (h.sep.ne 1 0 rfl rfl dM),h.ok.kept hg (h.sep.ne 2 0 rfl rfl dM),h.ol.kept hg (h.sep.ne 3 0 rfl rfl dM),h.op.kept hg (h.sep.ne 4 0 rfl rfl dM),h.om.kept hg (h.sep.ne 5 0 rfl rfl dM),h.mpv.kept hg (fun e=> ?_),fun c=>(h.fam c).kept hg (fun g hv e=>h.sepf _ hm c g e.symm hv),h.sep.turn 0 rfl hx h.lt,?_,h.sepc,h.mlo,h.os.grown hg (Nat.le_refl _) h.ext⟩
 ·obtain ⟨cur,hc⟩:=bZ h.os e.symm
  exact h.mpv.ne hc rfl
 ·intro v hv c g hvg hfg
  simp only [List.mem_cons,List.not_mem_nil,or_false]at hv
  have hold:∀u∈ [sv,bv,kv,lv,pv,mv],u.ownBlock=some g→False:=fun u hu hug=>h.sepf u hu c g hug hfg
  have hnew:x.ownBlock=some g→False:=fun e=>by
   rcases hx with hx | hx | ⟨j,hj,hx⟩
   ·exact hold _ hm (hx ▸ e)
   ·rw [hx]at e;cases e
   ·rw [hx]at e
    injection e with e
    have:=((h.fam c).lt hfg).2
    omega
  rcases hv with rfl | rfl | rfl | rfl | rfl | rfl
  ·exact hnew hvg
  ·exact hold _ sM hvg
  ·exact hold _ sM hvg
  ·exact hold _ sM hvg
  ·exact hold _ sM hvg
  ·exact hold _ sM hvg
theorem PR.turn_b (h:PR V0 sv bv kv lv pv mv mp nm f Y ms p w) {x:Value} {ys:List Nat} (ho:Own 3 1 intC w' V0.heap.size x (ordZ ys)) (hg:w.grownBy w' bv.ownBlock)
  (hx:x.ownBlock=bv.ownBlock∨x.ownBlock=none∨∃k,w.heap.size≤k∧x.ownBlock=some k):PR V0 sv x kv lv pv mv mp nm f Y ms {p with begins:=ys} w':=by
 have hm:bv∈ [sv,bv,kv,lv,pv,mv]:=by simp
 refine ⟨h.os.kept hg (h.sep.ne 0 1 rfl rfl dM),ho,h.ok.kept hg (h.sep.ne 2 1 rfl rfl dM),h.ol.kept hg (h.sep.ne 3 1 rfl rfl dM),h.op.kept hg (h.sep.ne 4 1 rfl rfl dM),h.om.kept hg (h.sep.ne 5 1 rfl rfl dM),h.mpv.kept hg (fun e=> ?_),fun c=>(h.fam c).kept hg (fun g hv e=>h.sepf _ hm c g e.symm hv),h.sep.turn 1 rfl hx h.lt,?_,h.sepc,h.mlo,h.ob.grown hg (Nat.le_refl _) h.ext⟩
 ·obtain ⟨cur,hc⟩:=bZ h.ob e.symm
  exact h.mpv.ne hc rfl
 ·intro v hv c g hvg hfg
  simp only [List.mem_cons,List.not_mem_nil,or_false]at hv
  have hold:∀u∈ [sv,bv,kv,lv,pv,mv],u.ownBlock=some g→False:=fun u hu hug=>h.sepf u hu c g hug hfg
  have hnew:x.ownBlock=some g→False:=fun e=>by
   rcases hx with hx | hx | ⟨j,hj,hx⟩
   ·exact hold _ hm (hx ▸ e)
   ·rw [hx]at e;cases e
   ·rw [hx]at e
    injection e with e
    have:=((h.fam c).lt hfg).2
    omega
  rcases hv with rfl | rfl | rfl | rfl | rfl | rfl
  ·exact hold _ sM hvg
  ·exact hnew hvg
  ·exact hold _ sM hvg
  ·exact hold _ sM hvg
  ·exact hold _ sM hvg
  ·exact hold _ sM hvg
theorem PR.turn_k (h:PR V0 sv bv kv lv pv mv mp nm f Y ms p w) {x:Value} {ys:List Bool} (ho:Own 4 1 e6 w' V0.heap.size x ys) (hg:w.grownBy w' kv.ownBlock)
  (hx:x.ownBlock=kv.ownBlock∨x.ownBlock=none∨∃k,w.heap.size≤k∧x.ownBlock=some k):PR V0 sv bv x lv pv mv mp nm f Y ms {p with lk:=ys} w':=by
 have hm:kv∈ [sv,bv,kv,lv,pv,mv]:=by simp
 refine ⟨h.os.kept hg (h.sep.ne 0 2 rfl rfl dM),h.ob.kept hg (h.sep.ne 1 2 rfl rfl dM),ho,h.ol.kept hg (h.sep.ne 3 2 rfl rfl dM),h.op.kept hg (h.sep.ne 4 2 rfl rfl dM),h.om.kept hg (h.sep.ne 5 2 rfl rfl dM),h.mpv.kept hg (fun e=> ?_),fun c=>(h.fam c).kept hg (fun g hv e=>h.sepf _ hm c g e.symm hv),h.sep.turn 2 rfl hx h.lt,?_,h.sepc,h.mlo,h.ok.grown hg (Nat.le_refl _) h.ext⟩
 ·obtain ⟨cur,hc⟩:=bZ h.ok e.symm
  exact h.mpv.ne hc rfl
 ·intro v hv c g hvg hfg
  simp only [List.mem_cons,List.not_mem_nil,or_false]at hv
  have hold:∀u∈ [sv,bv,kv,lv,pv,mv],u.ownBlock=some g→False:=fun u hu hug=>h.sepf u hu c g hug hfg
  have hnew:x.ownBlock=some g→False:=fun e=>by
   rcases hx with hx | hx | ⟨j,hj,hx⟩
   ·exact hold _ hm (hx ▸ e)
   ·rw [hx]at e;cases e
   ·rw [hx]at e
    injection e with e
    have:=((h.fam c).lt hfg).2
    omega
  rcases hv with rfl | rfl | rfl | rfl | rfl | rfl
  ·exact hold _ sM hvg
  ·exact hold _ sM hvg
  ·exact hnew hvg
  ·exact hold _ sM hvg
  ·exact hold _ sM hvg
  ·exact hold _ sM hvg
theorem PR.turn_l (h:PR V0 sv bv kv lv pv mv mp nm f Y ms p w) {x:Value} {ys:List Nat} (ho:Own 3 1 intC w' V0.heap.size x (ordZ ys)) (hg:w.grownBy w' lv.ownBlock)
  (hx:x.ownBlock=lv.ownBlock∨x.ownBlock=none∨∃k,w.heap.size≤k∧x.ownBlock=some k):PR V0 sv bv kv x pv mv mp nm f Y ms {p with large:=ys} w':=by
 have hm:lv∈ [sv,bv,kv,lv,pv,mv]:=by simp
 refine ⟨h.os.kept hg (h.sep.ne 0 3 rfl rfl dM),h.ob.kept hg (h.sep.ne 1 3 rfl rfl dM),h.ok.kept hg (h.sep.ne 2 3 rfl rfl dM),ho,h.op.kept hg (h.sep.ne 4 3 rfl rfl dM),h.om.kept hg (h.sep.ne 5 3 rfl rfl dM),h.mpv.kept hg (fun e=> ?_),fun c=>(h.fam c).kept hg (fun g hv e=>h.sepf _ hm c g e.symm hv),h.sep.turn 3 rfl hx h.lt,?_,h.sepc,h.mlo,h.ol.grown hg (Nat.le_refl _) h.ext⟩
 ·obtain ⟨cur,hc⟩:=bZ h.ol e.symm
  exact h.mpv.ne hc rfl
 ·intro v hv c g hvg hfg
  simp only [List.mem_cons,List.not_mem_nil,or_false]at hv
  have hold:∀u∈ [sv,bv,kv,lv,pv,mv],u.ownBlock=some g→False:=fun u hu hug=>h.sepf u hu c g hug hfg
  have hnew:x.ownBlock=some g→False:=fun e=>by
   rcases hx with hx | hx | ⟨j,hj,hx⟩
   ·exact hold _ hm (hx ▸ e)
   ·rw [hx]at e;cases e
   ·rw [hx]at e
    injection e with e
    have:=((h.fam c).lt hfg).2
    omega
  rcases hv with rfl | rfl | rfl | rfl | rfl | rfl
  ·exact hold _ sM hvg
  ·exact hold _ sM hvg
  ·exact hold _ sM hvg
  ·exact hnew hvg
  ·exact hold _ sM hvg
  ·exact hold _ sM hvg
theorem PR.turn_p (h:PR V0 sv bv kv lv pv mv mp nm f Y ms p w) {x:Value} {ys:List Nat} (ho:Own 3 1 intC w' V0.heap.size x (ordZ ys)) (hg:w.grownBy w' pv.ownBlock)
  (hx:x.ownBlock=pv.ownBlock∨x.ownBlock=none∨∃k,w.heap.size≤k∧x.ownBlock=some k):PR V0 sv bv kv lv x mv mp nm f Y ms {p with pile:=ys} w':=by
 have hm:pv∈ [sv,bv,kv,lv,pv,mv]:=by simp
 refine ⟨h.os.kept hg (h.sep.ne 0 4 rfl rfl dM),h.ob.kept hg (h.sep.ne 1 4 rfl rfl dM),h.ok.kept hg (h.sep.ne 2 4 rfl rfl dM),h.ol.kept hg (h.sep.ne 3 4 rfl rfl dM),ho,h.om.kept hg (h.sep.ne 5 4 rfl rfl dM),h.mpv.kept hg (fun e=> ?_),fun c=>(h.fam c).kept hg (fun g hv e=>h.sepf _ hm c g e.symm hv),h.sep.turn 4 rfl hx h.lt,?_,h.sepc,h.mlo,h.op.grown hg (Nat.le_refl _) h.ext⟩
 ·obtain ⟨cur,hc⟩:=bZ h.op e.symm
  exact h.mpv.ne hc rfl
 ·intro v hv c g hvg hfg
  simp only [List.mem_cons,List.not_mem_nil,or_false]at hv
  have hold:∀u∈ [sv,bv,kv,lv,pv,mv],u.ownBlock=some g→False:=fun u hu hug=>h.sepf u hu c g hug hfg
  have hnew:x.ownBlock=some g→False:=fun e=>by
   rcases hx with hx | hx | ⟨j,hj,hx⟩
   ·exact hold _ hm (hx ▸ e)
   ·rw [hx]at e;cases e
   ·rw [hx]at e
    injection e with e
    have:=((h.fam c).lt hfg).2
    omega
  rcases hv with rfl | rfl | rfl | rfl | rfl | rfl
  ·exact hold _ sM hvg
  ·exact hold _ sM hvg
  ·exact hold _ sM hvg
  ·exact hold _ sM hvg
  ·exact hnew hvg
  ·exact hold _ sM hvg
theorem PR.top (h:PR V0 sv bv kv lv pv mv mp nm f Y ms p w) (t:Nat):PR V0 sv bv kv lv pv mv mp nm f Y ms {p with top:=t} w:=⟨h.os,h.ob,h.ok,h.ol,h.op,h.om,h.mpv,h.fam,h.sep,h.sepf,h.sepc,h.mlo,h.ext⟩
theorem PR.far (h:PR V0 sv bv kv lv pv mv mp nm f Y ms p w) {b i:Nat} {u:Value} {cs:Array Value} {t:TypeId} {r:Nat×Nat} (hb:w.heap[b]?=some (.cells cs t r)) (h1:t≠3) (h2:t≠4) (hlo:V0.heap.size≤b):PR V0 sv bv kv lv pv mv mp nm f Y ms p (w.setCell ⟨b,i,none⟩ u):=
 ⟨h.os.setOther hb h1,h.ob.setOther hb h1,h.ok.setOther hb h2,h.ol.setOther hb h1,h.op.setOther hb h1,h.om.setOther hb h2,h.mpv.setCell (h.mpv.ne hb) _,fun c=>(h.fam c).setOther hb h1,h.sep,h.sepf,h.sepc,h.mlo,h.ext.setCell hlo _⟩
theorem PR.setK {g:Nat} {n c:Nat} (h:PR V0 sv bv kv lv pv mv mp nm f Y ms p w) (hk:kv= .slice (some ⟨g,0,none⟩) n c) (hn:p.lk.length=n) (i:Nat):PR V0 sv bv (.slice (some ⟨g,0,none⟩) n c) lv pv mv mp nm f Y ms (p.looked i) (w.setCell ⟨g,i,none⟩ (.bool true)):=by
 subst hk
 obtain ⟨cur,hc⟩:=bZ h.ok rfl
 have s5:=h.sep 2 5 _ _ g rfl rfl dM rfl
 exact ⟨h.os.setOther hc dM,h.ob.setOther hc dM,pV h.ok hn i true,h.ol.setOther hc dM,h.op.setOther hc dM,h.om.setNe s5,h.mpv.setCell (a:=⟨g,i,none⟩) (h.mpv.ne hc) _,fun c=>(h.fam c).setOther hc dM,h.sep,h.sepf,h.sepc,h.mlo,h.ext.setCell (p:=⟨g,i,none⟩) (bM h.ok rfl).1 _⟩
theorem PR.setM {g:Nat} {n c:Nat} (h:PR V0 sv bv kv lv pv mv mp nm f Y ms p w) (hk:mv= .slice (some ⟨g,0,none⟩) n c) (hn:ms.length=n) (i:Nat):PR V0 sv bv kv lv pv (.slice (some ⟨g,0,none⟩) n c) mp nm f Y (ms.set i true) p (w.setCell ⟨g,i,none⟩ (.bool true)):=by
 subst hk
 obtain ⟨cur,hc⟩:=bZ h.om rfl
 have s5:=h.sep 5 2 _ _ g rfl rfl dM rfl
 exact ⟨h.os.setOther hc dM,h.ob.setOther hc dM,h.ok.setNe s5,h.ol.setOther hc dM,h.op.setOther hc dM,pV h.om hn i true,h.mpv.setCell (a:=⟨g,i,none⟩) (h.mpv.ne hc) _,fun c=>(h.fam c).setOther hc dM,h.sep,h.sepf,h.sepc,h.mlo,h.ext.setCell (p:=⟨g,i,none⟩) (bM h.om rfl).1 _⟩
theorem PR.mid (h:PR V0 sv bv kv lv pv mv mp nm f Y ms p w) {c:Int} (hg:w.grownBy w' (f c).ownBlock):MapV w' mp nm f:=h.mpv.kept hg (fun e=>by
 obtain ⟨cur,hc⟩:=eU (h.fam c) e.symm
 exact h.mpv.ne hc rfl)
theorem PR.put {w1:World} {c:Int} {x:Value} {ys:List Nat} {n2:Nat} (h:PR V0 sv bv kv lv pv mv mp nm f Y ms p w) (hg:w.grownBy w1 (f c).ownBlock) (ho:OwnO w1 V0.heap.size x (ordZ ys)) (hx:x.ownBlock=(f c).ownBlock∨x.ownBlock=none∨∃k,w.heap.size≤k∧x.ownBlock=some k)
  (hm:MapV w' mp n2 (fun y=>if y=c then x else f y)) (hg2:w1.grownBy w' (some mp)):PR V0 sv bv kv lv pv mv mp n2 (fun y=>if y=c then x else f y) (fun y=>if y=c then ys else Y y) ms p w':=by
 have hmc:=PR.mid h hg
 have hcell:∀v∈ [sv,bv,kv,lv,pv,mv],∀g,v.ownBlock=some g→some g≠(f c).ownBlock:=fun v hv g hvg e=>h.sepf v hv c g hvg e.symm
 have hxb:∀g,x.ownBlock=some g→(f c).ownBlock=some g∨w.heap.size≤g:=fun g hg=>by
  rcases hx with hx | hx | ⟨j,hj,hx⟩
  ·exact .inl (hx ▸ hg)
  ·rw [hx]at hg;cases hg
  ·rw [hx]at hg;injection hg with hg;exact .inr oM
 have hmw:∀g cs t r,w1.heap[g]?=some (.cells cs t r)→some g≠some mp:=fun g cs t r hc e=>by injection e with e;exact hmc.ne hc e.symm
 refine ⟨((h.os.kept hg (by cases e:sv.ownBlock with | none=>exact .inl rfl | some g=>exact .inr (hcell _ sM g e)))).kept hg2 (by cases e:sv.ownBlock with | none=>exact .inl rfl | some g=>exact .inr (by obtain ⟨cur,hc⟩:=bZ ((h.os.kept hg (.inr (by rw [e];exact hcell _ sM g e)))) e;exact hmw g _ _ _ hc)),((h.ob.kept hg (by cases e:bv.ownBlock with | none=>exact .inl rfl | some g=>exact .inr (hcell _ sM g e)))).kept hg2 (by cases e:bv.ownBlock with | none=>exact .inl rfl | some g=>exact .inr (by obtain ⟨cur,hc⟩:=bZ ((h.ob.kept hg (.inr (by rw [e];exact hcell _ sM g e)))) e;exact hmw g _ _ _ hc)),((h.ok.kept hg (by cases e:kv.ownBlock with | none=>exact .inl rfl | some g=>exact .inr (hcell _ sM g e)))).kept hg2 (by cases e:kv.ownBlock with | none=>exact .inl rfl | some g=>exact .inr (by obtain ⟨cur,hc⟩:=bZ ((h.ok.kept hg (.inr (by rw [e];exact hcell _ sM g e)))) e;exact hmw g _ _ _ hc)),((h.ol.kept hg (by cases e:lv.ownBlock with | none=>exact .inl rfl | some g=>exact .inr (hcell _ sM g e)))).kept hg2 (by cases e:lv.ownBlock with | none=>exact .inl rfl | some g=>exact .inr (by obtain ⟨cur,hc⟩:=bZ ((h.ol.kept hg (.inr (by rw [e];exact hcell _ sM g e)))) e;exact hmw g _ _ _ hc)),((h.op.kept hg (by cases e:pv.ownBlock with | none=>exact .inl rfl | some g=>exact .inr (hcell _ sM g e)))).kept hg2 (by cases e:pv.ownBlock with | none=>exact .inl rfl | some g=>exact .inr (by obtain ⟨cur,hc⟩:=bZ ((h.op.kept hg (.inr (by rw [e];exact hcell _ sM g e)))) e;exact hmw g _ _ _ hc)),((h.om.kept hg (by cases e:mv.ownBlock with | none=>exact .inl rfl | some g=>exact .inr (hcell _ sM g e)))).kept hg2 (by cases e:mv.ownBlock with | none=>exact .inl rfl | some g=>exact .inr (by obtain ⟨cur,hc⟩:=bZ ((h.om.kept hg (.inr (by rw [e];exact hcell _ sM g e)))) e;exact hmw g _ _ _ hc)),hm,fun d=> ?_,h.sep,fun v hv d g hvg hfg=> ?_,fun d d' g hd h1 h2=> ?_,h.mlo,?_⟩
 ·try simp only
  by_cases hd:d=c
  ·rw [if_pos hd,if_pos hd]
   exact ho.kept hg2 (fun g hv=>by obtain ⟨cur,hc⟩:=eU ho hv;exact hmw g _ _ _ hc)
  ·rw [if_neg hd,if_neg hd]
   have h3:=(h.fam d).kept hg (fun g hv e=>h.sepc d c g hd hv e.symm)
   exact h3.kept hg2 (fun g hv=>by obtain ⟨cur,hc⟩:=eU h3 hv;exact hmw g _ _ _ hc)
 ·try simp only at hfg
  by_cases hd:d=c
  ·rw [if_pos hd]at hfg
   rcases hxb g hfg with h4 | h4
   ·exact h.sepf v hv c g hvg h4
   ·have:=h.lt v hv g hvg;omega
  ·rw [if_neg hd]at hfg
   exact h.sepf v hv d g hvg hfg
 ·try simp only at h1 h2
  by_cases e1:d=c
  ·rw [if_pos e1]at h1
   rw [if_neg (fun e2=>hd (e1.trans e2.symm))]at h2
   rcases hxb g h1 with h4 | h4
   ·exact h.sepc c d' g (fun e=>hd (e1.trans e)) h4 h2
   ·have:=((h.fam d').lt h2).2;omega
  ·rw [if_neg e1]at h1
   by_cases e2:d'=c
   ·rw [if_pos e2]at h2
    rcases hxb g h2 with h4 | h4
    ·exact h.sepc d c g e1 h1 h4
    ·have:=((h.fam d).lt h1).2;omega
   ·rw [if_neg e2]at h2
    exact h.sepc d d' g hd h1 h2
 ·have e1:Ext V0 w1:=Below.grown h.ext hg (zv h.ext) (fun k hk=>((h.fam c).lt hk).1)
  exact Below.grown e1 hg2 (zv e1) (fun k hk=>by injection hk with hk;have:=h.mlo;omega)
end
theorem qm {o:Oper} {a:Act} {w:World} {K:Act→World→Prop} {Q:Exit→Act→World→Prop} (l:Operand) (hop:o.op=Op.makeSlice 199 l l) (n:Nat) (hl:a.eval l= .int .i64 (n:Int)) (hn:n≤17592186044416)
  (hK:∀w',Own 4 1 e6 w' w.heap.size (.slice (some ⟨w.heap.size,0,none⟩) n n) (List.replicate n false)→Ext w w'→K (a.put o.dst (.slice (some ⟨w.heap.size,0,none⟩) n n)) w'):o.wp Tryz.prog a w K Q:=by
 obtain ⟨i,hi,hz0,hz1,hz2⟩:=info_parts mh
 obtain ⟨w',hrun,r1,r2⟩:=run_make_full (P:=Tryz.prog) w w.heap.size 199 4 i (.bool false) 1 Tryz.underlying199 hi hz0 hz1 .i64 .i64 n (by rw [hz2];omega) (by unfold maxLen;omega) (Nat.le_refl _)
 have hown:Own 4 1 e6 w' w.heap.size (.slice (some ⟨w.heap.size,0,none⟩) n n) (List.replicate n false):=by
  unfold Own
  have e:(List.replicate n false).flatMap e6=(madeCells (Value.bool false).cells (n*1)).toList:=by
   rw [Nat.mul_one,show (Value.bool false).cells= #[Value.bool false]from rfl,toList_madeCells_one]
   clear r1 r2 hl hn hK hrun
   induction n with
   | zero=>rfl
   | succ n ih=>rw [List.replicate_succ,List.flatMap_cons,ih];rfl
  rw [e,List.length_replicate]
  exact r1
 unfold Oper.wp
 simp [execOp,hop,hl,hrun,Result.andThen]
 exact hK _ hown ⟨r2.os,r2.tape,r2.output,r2.size,fun k hk=>r2.block k hk sM⟩
def metL (n:Nat) (p:PlD):List Bool:=(List.range n).map p.has
def d9 (blk:Nat) (p:PlD) (c:Nat):List Nat:=(List.range p.small.length).filter fun i=>decide (p.begins.getD i 0/blk=c)
def NxtOk (blk:Nat) (p:PlD) (Y:Int→List Nat):Prop:=∀c:Nat,∃ds,d9 blk p c=ds++Y c∧∀i∈ds,p.lk.getD i true=true
def Fst (p:PlD) (fi:Nat):Prop:=fi≤p.small.length∧∀i,i < fi→p.lk.getD i true=true
section
variable {n blk x s : Nat} {p : PlD} {Y : Int → List Nat} {mk : Bool} {fi : Nat}
theorem bw:(metL n p).length=n:=by simp [metL]
theorem ea {i:Nat} (h:i < n):(metL n p).getD i false=p.has i:=by simp [metL,h]
theorem nP (h:x < n):metL n (p.addL x)=(metL n p).set x true:=by
 refine gz false (by simp [metL]) fun i hi=> ?_
 rw [bw]at hi
 rw [ea hi,cn (by rw [bw];exact h)]
 by_cases e:x=i
 ·subst e;rw [if_pos rfl];simp [PlD.has,PlD.addL]
 ·rw [if_neg e,ea hi]
  have:¬i=x:=fun h=>e h.symm
  exact Bool.eq_iff_iff.2 (by rw [AJ,AJ];simp [PlD.addL,this])
theorem nQ (h:x < n):metL n (p.addS mk x s)=(metL n p).set x true:=by
 refine gz false (by simp [metL]) fun i hi=> ?_
 rw [bw]at hi
 rw [ea hi,cn (by rw [bw];exact h)]
 by_cases e:x=i
 ·subst e;rw [if_pos rfl];simp [PlD.has,PlD.addS]
 ·rw [if_neg e,ea hi]
  have:¬i=x:=fun h=>e h.symm
  exact Bool.eq_iff_iff.2 (by rw [AJ,AJ];simp [PlD.addS,this])
theorem nR {l:List Bool} {i j:Nat} (h:l.getD j true=true):(l.set i true).getD j true=true:=by
 rw [List.getD_eq_getElem?_getD,List.getElem?_set]
 split
 ·split <;>simp
 ·rwa [List.getD_eq_getElem?_getD]at h
theorem NxtOk.lookd (h:NxtOk blk p Y) (i:Nat):NxtOk blk (p.looked i) Y:=fun c=>by
 obtain ⟨ds,h1,h2⟩:=h c
 exact ⟨ds,h1,fun j hj=>nR (h2 j hj)⟩
theorem NxtOk.addS (h:NxtOk blk p Y) (hb:p.begins.length=p.small.length) (hl:p.lk.length=p.small.length):NxtOk blk (p.addS mk x s) (fun y=>if y=((p.top/blk:Nat):Int)then Y ((p.top/blk:Nat):Int)++ [p.small.length]else Y y):=fun c=>by
 obtain ⟨ds,h1,h2⟩:=h c
 refine ⟨ds,?_,fun i hi=> ?_⟩
 ·have hsl:(p.addS mk x s).small.length=p.small.length+1:=by simp [PlD.addS]
  have hbg:∀i,i < p.small.length→(p.addS mk x s).begins.getD i 0=p.begins.getD i 0:=fun i hi=>dN oM
  have hbn:(p.addS mk x s).begins.getD p.small.length 0=p.top:=by
   show (p.begins++ [p.top]).getD p.small.length 0=p.top
   rw [eS oM,hb];simp
  have e1:d9 blk (p.addS mk x s) c=d9 blk p c++(if p.top/blk=c then [p.small.length]else []):=by
   unfold d9
   rw [hsl,List.range_succ,List.filter_append]
   congr 1
   ·refine List.filter_congr fun i hi=> ?_
    rw [hbg i (List.mem_range.1 hi)]
   ·simp only [List.filter_cons,List.filter_nil,hbn]
    by_cases hc:p.top/blk=c
    ·simp [hc]
    ·simp [hc]
  rw [e1,h1]
  show _=ds++(if ((c:Nat):Int)=((p.top/blk:Nat):Int)then Y ((p.top/blk:Nat):Int)++ [p.small.length]else Y c)
  by_cases hc:p.top/blk=c
  ·rw [if_pos hc,if_pos oM,hc,List.append_assoc]
  ·rw [if_neg hc,if_neg oM,List.append_nil]
 ·have hlt : i < p.small.length := by
   have h3:i∈d9 blk p c:=by rw [h1];exact List.mem_append_left _ hi
   exact List.mem_range.1 (List.mem_filter.1 h3).1
  simp only [PlD.addS]
  rw [dN oM]
  exact h2 i hi
theorem NxtOk.len (h:NxtOk blk p Y) (c:Nat):(Y c).length≤p.small.length:=by
 obtain ⟨ds,h1,_⟩:=h c
 have h2:(d9 blk p c).length≤p.small.length:=by
  have:=List.length_filter_le (fun i=>decide (p.begins.getD i 0/blk=c)) (List.range p.small.length)
  simpa [d9]using this
 rw [h1,List.length_append]at h2
 omega
theorem NxtOk.lt (h:NxtOk blk p Y) (c:Nat) {i:Nat} (hi:i∈Y c):i < p.small.length:=by
 obtain ⟨ds,h1,_⟩:=h c
 have h3:i∈d9 blk p c:=by rw [h1];exact List.mem_append_right _ hi
 exact List.mem_range.1 (List.mem_filter.1 h3).1
theorem Fst.addS (h:Fst p fi) (hl:p.lk.length=p.small.length):Fst (p.addS mk x s) fi:=by
 refine ⟨by simp only [PlD.addS,List.length_append];have:=h.1;omega,fun i hi=> ?_⟩
 simp only [PlD.addS]
 rw [dN (by have:=h.1;omega)]
 exact h.2 i hi
theorem Fst.lookd (h:Fst p fi) (i:Nat):Fst (p.looked i) fi:=⟨h.1,fun j hj=>nR (h.2 j hj)⟩
end
structure PQ (V0:World) (G:GraphD) (lim blk b:Nat) (sv bv kv lv pv mv:Value) (mp nm:Nat) (f:Int→Value) (Y:Int→List Nat) (K fi:Nat) (p:PlD) (w:World):Prop where
 cel:w.heap[b]?=some (.cells #[.slice G.nA G.ns.length G.ncap,.slice G.rA G.rs.length G.rcap,.int .i64 lim,.int .i64 blk,mv,sv,lv,bv,.int .i64 p.top,pv,.map (some mp),.int .i64 fi,kv] 202 (0,0))
 pr:PR V0 sv bv kv lv pv mv mp nm f Y (metL G.ns.length p) p w
 lo:V0.heap.size≤b
 nx:NxtOk blk p Y
 nmk:nm≤K+p.met
 fst:Fst p fi
section
variable {V0 : World} {G : GraphD} {lim blk b : Nat} {sv bv kv lv pv mv : Value} {mp nm : Nat} {f : Int → Value} {Y : Int → List Nat} {K fi : Nat} {p : PlD} {w w' : World}
theorem PQ.grow (h:PQ V0 G lim blk b sv bv kv lv pv mv mp nm f Y K fi p w) (hx:Ext w w'):PQ V0 G lim blk b sv bv kv lv pv mv mp nm f Y K fi p w':=
 ⟨(hx.block (aA h.cel)).trans h.cel,h.pr.grow hx,h.lo,h.nx,h.nmk,h.fst⟩
end
def PP (V0:World) (G:GraphD) (lim blk b K:Nat) (p:PlD) (w:World):Prop:=∃sv bv kv lv pv mv mp nm f Y fi,PQ V0 G lim blk b sv bv kv lv pv mv mp nm f Y K fi p w
theorem PP.grow {V0 w w':World} {G:GraphD} {lim blk b K:Nat} {p:PlD} (h:PP V0 G lim blk b K p w) (hx:Ext w w'):PP V0 G lim blk b K p w':=by
 obtain ⟨sv,bv,kv,lv,pv,mv,mp,nm,f,Y,fi,h⟩:=h
 exact ⟨sv,bv,kv,lv,pv,mv,mp,nm,f,Y,fi,h.grow hx⟩
theorem PP.ext {V0 w:World} {G:GraphD} {lim blk b K:Nat} {p:PlD} (h:PP V0 G lim blk b K p w):Ext V0 w:=by
 obtain ⟨sv,bv,kv,lv,pv,mv,mp,nm,f,Y,fi,h⟩:=h
 exact h.pr.ext
theorem PP.mono {V0 w:World} {G:GraphD} {lim blk b K K2:Nat} {p:PlD} (h:PP V0 G lim blk b K p w) (hk:K≤K2):PP V0 G lim blk b K2 p w:=by
 obtain ⟨sv,bv,kv,lv,pv,mv,mp,nm,f,Y,fi,h⟩:=h
 exact ⟨sv,bv,kv,lv,pv,mv,mp,nm,f,Y,fi,h.cel,h.pr,h.lo,h.nx,by have:=h.nmk;omega,h.fst⟩
section
variable {G : GraphD} {lim blk : Nat} {V : World}
theorem PP.new {V0:World} {b mp:Nat} {mv:Value} {w:World} (ho:Own 4 1 e6 w V0.heap.size mv (List.replicate G.ns.length false)) (hm:MapV w mp 0 (fun _=> .slice none 0 0)) (hml:V0.heap.size≤mp) (hx:Ext V0 w)
  (hb:w.heap[b]?=some (.cells #[.slice G.nA G.ns.length G.ncap,.slice G.rA G.rs.length G.rcap,.int .i64 lim,.int .i64 blk,mv,.slice none 0 0,.slice none 0 0,.slice none 0 0,.int .i64 0,.slice none 0 0,.map (some mp),.int .i64 0,.slice none 0 0] 202 (0,0))) (hlo:V0.heap.size≤b):PP V0 G lim blk b 0 PlD.new w:=by
 have hml':metL G.ns.length PlD.new=List.replicate G.ns.length false:=gz false (by simp [metL]) fun i hi=>by
  rw [bw]at hi
  rw [ea hi]
  simp [PlD.has,PlD.new,hi]
 refine ⟨_,_,_,_,_,mv,mp,0,fun _=> .slice none 0 0,fun _=> [],0,hb,⟨AA _ _ _ _ _,AA _ _ _ _ _,AA _ _ _ _ _,AA _ _ _ _ _,AA _ _ _ _ _,by rw [hml'];exact ho,hm,fun _=>OwnO.nil _ _,?_,?_,?_,hml,hx⟩,hlo,?_,by simp,⟨by simp,by omega⟩⟩
 ·intro i j x y g hi hj hij hx hy
  have key:∀k z,[Value.slice none 0 0,.slice none 0 0,.slice none 0 0,.slice none 0 0,.slice none 0 0,mv][k]?=some z→z.ownBlock=some g→k=5:=by
   intro k z hk hz
   match k,hk with
   | 0,hk=>injection hk with hk;subst hk;cases hz
   | 1,hk=>injection hk with hk;subst hk;cases hz
   | 2,hk=>injection hk with hk;subst hk;cases hz
   | 3,hk=>injection hk with hk;subst hk;cases hz
   | 4,hk=>injection hk with hk;subst hk;cases hz
   | 5,hk=>rfl
   | k+6,hk=>simp at hk
  exact hij ((key i x hi hx).trans (key j y hj hy).symm)
 ·intro v hv c g hvg hfg
  cases hfg
 ·intro c c' g hc h1
  cases h1
 ·intro c
  exact ⟨[],by simp [d9,PlD.new],by simp⟩
theorem qn (hV:GraphAt V G) (hG:RchG G lim blk):
  Calls Tryz.prog 157 #[.agg #[.slice G.nA G.ns.length G.ncap,.slice G.rA G.rs.length G.rcap],.int .i64 lim,.int .i64 blk] V fun e w'=>∃b,e= .returned (.pointer (some ⟨b,0,none⟩))∧PP V G lim blk b 0 PlD.new w':=by
 have hx0:=(zo V).alloc (.cells #[.slice G.nA G.ns.length G.ncap,.slice G.rA G.rs.length G.rcap] 27)
 have hBx:=aF V #[.slice G.nA G.ns.length G.ncap,.slice G.rA G.rs.length G.rcap] 27 _ rfl
 have HX:=zH hx0
 have HN:=zH hG.n
 have HVS:Hid (V.heap.size≤V.heap.size):=zH (Nat.le_refl _)
 clear hx0 hV hG
 go_enter Tryz.func157,Tryz.ntmps157
 go_wp2_with fail
 generalize V.alloc (.cells #[.slice G.nA G.ns.length G.ncap,.slice G.rA G.rs.length G.rcap] 27)=W at*
 have hyd:=(zo W).drew
 have hGP:BoxK V.heap.size #[.slice G.nA G.ns.length G.ncap,.slice G.rA G.rs.length G.rcap] 27 W.drew:=(hBx.re hyd).here
 have gB:=hGP.cells
 (refine dI (w:=W) (fun w'=>∃u:KeptOf (W).drew (BoxK V.heap.size #[.slice G.nA G.ns.length G.ncap,.slice G.rA G.rs.length G.rcap] 27),w'=u.1) (.rd [0,1,2,3,4,5] (.fk 6 (.one 7 .tl) 7 (.one 6 .tl))) [8,9,10] kR kR (by intro c a d v w h;first | exact h | (cases d <;>first | exact h | (cases h;done) | cases h.1.1 | cases h.1)) (ae hGP) ?_)
 (refine jZ ?_;(try simp only [aI,List.map_cons,List.map_nil,List.getD_cons_zero,List.getD_cons_succ]);(repeat (go_big_quiet_step (fail)));refine wpQuiet_nil ?_)
 refine s6 ?_ ?_
 ·refine cE gD rM ?_
  intro K hK
  refine qm (.tmp 12) rfl G.ns.length rM (by have:=HN.out;omega) ?_
  intro wN ho hy
  have HO:=zH (ho.mono (B':=V.heap.size) (HX.out.trans hyd).size)
  refine hK _ _ _ (fun _ h=>h) (ae (hGP.ext hy)) ?_
  clear hK K ho
  (refine cE gD rM ?_;intro K hK;go_simp)
  refine hK _ _ _ (fun _ h=>h) (ae ((hGP.ext hy).ext ((zo _).alloc _))) ?_
  clear hK K gB
  (refine kW ?_;(try simp only [aI,List.map_cons,List.map_nil,List.getD_cons_zero,List.getD_cons_succ]))
  have HXN:=zH ((HX.out.trans hyd).trans hy)
  have HM:=zH (MapV.made wN)
  have HOX:=zH (HO.out.ext ((zo wN).alloc (.map #[] 0)))
  have HBX:=zH (((hGP.ext hy).ext ((zo _).alloc (.map #[] 0))))
  clear HO hy hyd hGP
  go_wp2_with fail
  go_ret
  exact ⟨wN.heap.size+1,rfl,PP.new (HOX.out.ext ((zo _).alloc _)) (HM.out.ext ((zo _).alloc _)) HXN.out.size ((HXN.out.alloc _).alloc _) (aN _ _ _ _ sM) (by have:=HXN.out.size;omega)⟩
 ·(refine cE gD rM ?_;intro K hK;go_simp)
  refine hK _ _ _ (fun _ h=>h) (ae (hGP.ext ((zo W.drew).alloc (.map #[] 0)))) ?_
  clear hK K gB
  have hGP2:=hGP.ext ((zo W.drew).alloc (.map #[] 0))
  have HM:=zH (MapV.made W.drew)
  have hx2:=(HX.out.trans hyd).alloc (.map #[] 0)
  have hms:=(HX.out.trans hyd).size
  refine cE gD rM ?_
  intro K hK
  refine qm (.tmp 12) rfl G.ns.length rM (by have:=HN.out;omega) ?_
  intro wN ho hy
  replace hy:Ext (W.drew.alloc (.map #[] 0)) wN:=hy
  replace ho:Own 4 1 e6 wN V.heap.size (.slice (some ⟨(W.drew.alloc (.map #[] 0)).heap.size,0,none⟩) G.ns.length G.ns.length) (List.replicate G.ns.length false):=ho.mono hx2.size
  have HO:=zH ho
  refine hK _ _ _ (fun _ h=>h) (ae (hGP2.ext hy)) ?_
  clear hK K ho
  (refine kW ?_;(try simp only [aI,List.map_cons,List.map_nil,List.getD_cons_zero,List.getD_cons_succ]))
  have HXN:=zH (hx2.trans hy)
  replace HM:=zH (HM.out.ext hy)
  have HMS:=zH hms
  clear hy hyd hGP hGP2 hx2 hms
  go_wp2_with fail
  go_ret
  have ho:=HO.out
  rw [show (W.drew.alloc (.map #[] 0)).heap.size=W.heap.size+1 by simp]at ho
  have hm:MapV wN W.heap.size 0 (fun _=> .slice none 0 0):=HM.out
  exact ⟨wN.heap.size,rfl,PP.new (ho.ext ((zo _).alloc _)) (hm.ext ((zo _).alloc _)) HMS.out (HXN.out.alloc _) (aN _ _ _ _ rfl) HXN.out.size⟩
end
end Go.Proofs.YtphpppjfogpohaaGreat
