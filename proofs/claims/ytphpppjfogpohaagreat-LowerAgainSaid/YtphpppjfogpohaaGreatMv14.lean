/- Merged by program (merge.py) out of: ExtD, ExtE, LedA, Law03B, StD, StE, StDa, ExtF. -/
import Derived.Test.YtphpppjfogpohaaGreatMv13
import Derived.Test.YtphpppjfogpohaaGreatMv4
import Derived.Test.YtphpppjfogpohaaGreatMv7
import Derived.Test.YtphpppjfogpohaaGreatMv11
set_option linter.unusedSimpArgs false
set_option linter.unusedVariables false
set_option maxRecDepth 100000
set_option maxHeartbeats 16000000
namespace Go.Proofs.YtphpppjfogpohaaGreat
open Go.RowKit Go.Shelf
theorem clone_c (A:Option Addr) (cap:Nat) (xs:List (Int×Int)) (n:Nat) (V:World) (hn:xs.length=n) (hlen:n≤1000000) (hl:SpansAt V A xs):
  Calls Tryz.prog 83 #[.slice A n cap] V
   fun e w'=>∃A2 cap2,e= .returned (.slice A2 n cap2)∧OwnS w' V.heap.size (.slice A2 n cap2) xs∧Ext V w'∧(0 < xs.length→∃g,A2=some ⟨g,0,none⟩):=by
 subst hn
 cases A with
 | none=>
  obtain rfl:=row_none hl
  refine (clone_none cap V).mono ?_
  rintro e w' ⟨rfl,hx⟩
  exact ⟨none,0,rfl,Own.nil _ _ _ _ _,hx,fun h=>absurd h (by simp)⟩
 | some ad=>
  refine (clone_some ad cap xs V (by omega) hl).mono ?_
  rintro e w' ⟨g,cap2,rfl,ho,hx⟩
  exact ⟨_,_,rfl,ho,hx,fun _=>⟨g,rfl⟩⟩
theorem Own.spans {w:World} {B:Nat} {A:Option Addr} {n cap:Nat} {xs:List (Int×Int)} (h:OwnS w B (.slice A n cap) xs):SpansAt w A xs:=by
 obtain ⟨_,_,e3,hrow3,_⟩:=h.form spanCells (by decide)
 obtain ⟨rfl,_,rfl⟩:_∧_∧_:=by simpa only [Value.slice.injEq]using e3
 exact hrow3
theorem delete_c (B g cap i N:Nat) (j:Int) (xs:List (Int×Int)) (w:World) (hN:xs.length=N) (hi:i < N) (hj:j=(i+1:Nat)) (hB:B≤w.heap.size) (hO:OwnS w B (.slice (some ⟨g,0,none⟩) N cap) xs):
  Calls Tryz.prog 164 #[.slice (some ⟨g,0,none⟩) N cap,.int .i64 i,.int .i64 j] w
   fun e w'=>e= .returned (.slice (some ⟨g,0,none⟩) (N - 1) cap)∧OwnS w' B (.slice (some ⟨g,0,none⟩) (N - 1) cap) (xs.eraseIdx i)∧Below B w w'∧Only g w w':=by
 obtain ⟨k,rfl⟩:∃k,N=i+k+1:=⟨N - (i+1),by omega⟩
 exact delete_any B g cap i k j xs w hN hj hB hO
def takeP (n:Int) (x:Int×Int):Bool:=mayB x.1 x.2 && decide (n≤x.2)
theorem take1_tells (n:Int) (B:Nat) (V:World) (hc:V.cell? ⟨B,0,none⟩=some (.int .i64 n)):Tells 163 #[.pointer (some ⟨B,0,none⟩)] (takeP n) V:=by
 intro W x hx
 obtain ⟨a,s⟩:=x
 have c1:=hx.cell hc
 clear hc
 show Calls Tryz.prog 163 #[.agg #[.int .i64 (a),.int .i64 (s)],.pointer (some ⟨B,0,none⟩)] W _
 unfold takeP
 cases hm:mayB a s
 ·go_enter Tryz.func163,Tryz.ntmps163
  go_wp2_with fail
  refine (may_is a s _ hm _).mono ?_
  rintro e w1 ⟨rfl,hx1⟩
  have hx2:=((Ext.refl W).alloc (.cells #[.int .i64 a,.int .i64 s] 63)).trans hx1
  go_wp2_with fail
  go_ret
  exact ⟨ret_bool (by simp [hm]),hx2⟩
 ·have hs:decide (s≥n)=decide (n≤s):=rfl
  go_enter Tryz.func163,Tryz.ntmps163
  go_wp2_with fail
  refine (may_is a s _ hm _).mono ?_
  rintro e w1 ⟨rfl,hx1⟩
  have hx2:=((Ext.refl W).alloc (.cells #[.int .i64 a,.int .i64 s] 63)).trans hx1
  have k1:=boxed W #[.int .i64 a,.int .i64 s] 63 1 (.int .i64 s) rfl w1 hx1
  have k2:=hx2.cell c1
  go_wp2_with fail
  all_goals (go_ret;exact ⟨ret_bool (by simp [hm, *]),hx2⟩)
def takeL (n:Int) (xs:List (Int×Int)) (k:Nat):List (Int×Int):=if (gt xs k).2=n then xs.eraseIdx k else xs.set k ((gt xs k).1+n,(gt xs k).2 - n)
def TakeRes (n:Int) (xs:List (Int×Int)) (ys:List (Int×Int)) (p er:Int):Prop:=
 (n < 1∧ys=xs∧p=0∧er=7)∨(1≤n∧(∀x∈xs,takeP n x=false)∧ys=xs∧p=0∧er=9)∨
 (1≤n∧∃k,k < xs.length∧idxZ (takeP n) xs=k∧takeP n (gt xs k)=true∧ys=takeL n xs k∧p=(gt xs k).1∧er=0)
def TakeOwn (n:Int) (xs:List (Int×Int)) (V:World) (e:Ending) (w':World):Prop:=
 ∃(ys:List (Int×Int)) (p er:Int) (m:Nat) (A2:Option Addr) (cap2:Nat),TakeRes n xs ys p er∧m=ys.length∧e= .returned (.tuple #[.slice A2 m cap2,.int .i64 p,.int .i64 er])∧OwnS w' V.heap.size (.slice A2 m cap2) ys∧Ext V w'
theorem take_own (A:Option Addr) (cap:Nat) (xs:List (Int×Int)) (n:Int) (V:World) (hlen:xs.length≤1000000) (hl:SpansAt V A xs):
  Calls Tryz.prog 134 #[.slice A xs.length cap,.int .i64 n] V (TakeOwn n xs V):=by
 have HL:=zH hl
 clear hl
 have hV:Ext V (V.alloc (.cells #[.int .i64 n] 3)):=(Ext.refl V).alloc _
 have k0:=boxed V #[.int .i64 n] 3 0 (.int .i64 n) rfl
 go_enter Tryz.func134,Tryz.ntmps134
 go_wp2_with fail
 refine (clone_c A cap xs _ _ rfl hlen (HL.out.ext hV)).mono ?_
 rintro e W ⟨A2,cap2,rfl,ho,hx,hg⟩
 have HO:=zH (ho.mono hV.size)
 have HX:=zH (hV.trans hx)
 replace k0:=fun w' (h:Ext W w')=>k0 w' (hx.trans h)
 have c0:=k0 W (Ext.refl W)
 clear ho hx hV HL
 by_cases h1:n < 1
 ·go_wp2_with fail
  go_ret3
  exact ⟨xs,0,7,_,A2,cap2,.inl ⟨h1,rfl,rfl,rfl⟩,rfl,rfl,HO.out,HX.out⟩
 have eg:∀args w,(callFunc 163 args).run Tryz.prog w= .ok (.enter 163 args) w:=enters_of Tryz.func163 (by kernel_rfl) rfl
 go_wp2_with fail
 refine (indexFunc_any (takeP n) _ _ eg A2 cap2 xs W (take1_tells n _ W c0) (by omega) HO.out.spans).mono ?_
 rintro e w1 ⟨rfl,hx1⟩
 rcases idx_cases (takeP n) xs with ⟨hi,hno⟩ | ⟨k,hk,hi,hyes,hno⟩
 ·rw [hi]
  go_wp2_with fail
  go_ret3
  exact ⟨xs,0,9,_,A2,cap2,.inr (.inl ⟨by omega,hno,rfl,rfl,rfl⟩),rfl,rfl,HO.out.ext hx1,HX.out.trans hx1⟩
 ·have HI:=zH hi
  have HY:=zH hyes
  rw [hi]
  obtain ⟨g,rfl⟩:=hg (by omega)
  have HO1:=zH (HO.out.ext hx1)
  have HX1:=zH (HX.out.trans hx1)
  replace k0:=fun w' (h:Ext w1 w')=>k0 w' (hx1.trans h)
  clear hg hi hyes hno HO HX c0 hx1 eg
  obtain ⟨d1,d2,d3,d4⟩:=OwnS.at HO1.out rfl hk
  have hm:mayB (gt xs k).1 (gt xs k).2=true∧n≤(gt xs k).2:=by have:=HY.out;simpa [takeP]using this
  obtain ⟨hm,hns⟩:=hm
  obtain ⟨q1,q2,q3,q4⟩:=may_bd hm
  clear hm
  obtain ⟨⟨a,s⟩,hgt⟩:∃x,gt xs k=x:=⟨_,rfl⟩
  have HG:=zH hgt
  rw [hgt]at d1 d2 hns q1 q2 q3 q4
  simp only at d1 d2 hns q1 q2 q3 q4
  clear hgt d3 d4
  have ib1:(k:Int) < (xs.length:Int):=by omega
  have ib3:(0:Int)≤(k:Int):=by omega
  have hs0:Ext w1 w1:=Ext.refl w1
  have l0:=fun u:ExtOf w1=>k0 u.1 u.2
  have l1:=fun u:ExtOf w1=>u.2.cell d1
  have l2:=fun u:ExtOf w1=>u.2.cell d2
  go_wp2_with fail
  (refine wp_region_ord (W:=w1) [(0,true),(1,true),(2,true),(3,true),(4,true),(5,true),(6,true),(7,true),(8,true),(9,true),(10,true),(11,true),(12,true),(13,true)] [] [14] (by kernel_rfl) (by kernel_rfl) (by intro c a d v w h;cases d <;>first | exact h | (cases h;done) | cases h.1.1 | cases h.1) (by with_reducible assumption) ?_;simp only [opsOf,List.map_cons,List.map_nil,List.getD_cons_zero,List.getD_cons_succ];(repeat (go_big_quiet_step (fail)));refine wpQuiet_nil ?_;intro w1 hx;refine mid_nil ?_)
  clear d1 d2 l0 l1 l2
  have HO2:=zH (HO1.out.ext hx)
  have HX2:=zH (HX1.out.trans hx)
  obtain ⟨d1,d2,d3,d4⟩:=OwnS.at HO2.out rfl hk
  rw [HG.out]at d1 d2
  simp only at d1 d2
  obtain ⟨p1,p2,p3,p4⟩:=Own.cap HO2.out
  have HO3:=zH (OwnS.store HO2.out rfl k (a+n) (s - n))
  have HX3:Hid (Ext V ((w1.setCell ⟨g,k*2,none⟩ (.int .i64 (a+n))).setCell ⟨g,k*2+1,none⟩ (.int .i64 (s - n)))):=zH ((HX2.out.setCell p3 _).setCell p3 _)
  clear HO1 HX1 HO2 HX2 hx hs0 k0
  by_cases hsn:s=n
  ·have hd:(s - n==0)=true:=by simp;omega
   have hz:s - n=0:=by omega
   rw [hz]at HO3 HX3
   clear hz
   have hT:takeL n xs k=(xs.set k (a+n,0)).eraseIdx k:=by unfold takeL;rw [HG.out];simp only [hsn,if_true];rw [List.eraseIdx_set_eq]
   have HT:=zH hT
   have HSZ:Hid (V.heap.size≤((w1.setCell ⟨g,k*2,none⟩ (.int .i64 (a+n))).setCell ⟨g,k*2+1,none⟩ (.int .i64 (0))).heap.size):=zH HX3.out.size
   clear hT
   go_wp2_with fail
   generalize (w1.setCell ⟨g,k*2,none⟩ (.int .i64 (a+n))).setCell ⟨g,k*2+1,none⟩ (.int .i64 (0))=W5 at*
   refine (delete_c V.heap.size g cap2 k xs.length ((k:Int)+1) (xs.set k (a+n,0)) W5 (by rw [List.length_set]) hk (by simp) HSZ.out HO3.out).mono ?_
   rintro e W6 ⟨rfl,hd1,hd2,_⟩
   have HD1:=zH hd1
   have HD2:=zH hd2
   clear hd1 hd2
   go_wp2_with fail
   go_ret3
   exact ⟨takeL n xs k,a,0,xs.length - 1,_,cap2,.inr (.inr ⟨by omega,k,hk,HI.out,HY.out,rfl,by rw [HG.out],rfl⟩),by rw [HT.out,List.length_eraseIdx,List.length_set,if_pos hk],rfl,by rw [HT.out];exact HD1.out,Below.trans HX3.out HD2.out⟩
  ·have hd:(s - n==0)=false:=by simp;omega
   have hT:takeL n xs k=xs.set k (a+n,s - n):=by unfold takeL;rw [HG.out];simp only [hsn,if_false]
   have HT:=zH hT
   clear hT
   go_wp2_with fail
   go_ret3
   exact ⟨takeL n xs k,a,0,xs.length,_,cap2,.inr (.inr ⟨by omega,k,hk,HI.out,HY.out,rfl,by rw [HG.out],rfl⟩),by rw [HT.out,List.length_set],rfl,by rw [HT.out];exact HO3.out,HX3.out⟩
def giveP (a s:Int) (x:Int×Int):Bool:=meetsB x.1 x.2 a s
def addP (q:Int) (x:Int×Int):Bool:=decide (q < x.1)
theorem add1_tells (a s:Int) (B:Nat) (V:World) (hc:V.cell? ⟨B,0,none⟩=some (.int .i64 a)) (hd:V.cell? ⟨B,1,none⟩=some (.int .i64 s)):Tells 166 #[.pointer (some ⟨B,0,none⟩)] (giveP a s) V:=by
 intro W x hx
 obtain ⟨c,d⟩:=x
 have c1:=hx.cell hc
 have c2:=hx.cell hd
 clear hc hd
 have k1:=boxed W #[.int .i64 c,.int .i64 d] 63 0 (.int .i64 c) rfl
 have k2:=boxed W #[.int .i64 c,.int .i64 d] 63 1 (.int .i64 d) rfl
 have hW:Ext W (W.alloc (.cells #[.int .i64 c,.int .i64 d] 63)):=(Ext.refl W).alloc _
 have c3:=hW.cell c1
 have c4:=hW.cell c2
 show Calls Tryz.prog 166 #[.agg #[.int .i64 (c),.int .i64 (d)],.pointer (some ⟨B,0,none⟩)] W _
 unfold giveP
 go_enter Tryz.func166,Tryz.ntmps166
 go_wp2_with fail
 refine (meets_any c d a s _).mono ?_
 rintro e w1 ⟨rfl,hx1⟩
 have hx2:=hW.trans hx1
 go_wp2_with fail
 go_ret
 exact ⟨rfl,hx2⟩
theorem add2_tells (q:Int) (B:Nat) (V:World) (hc:V.cell? ⟨B,0,none⟩=some (.int .i64 q)):Tells 168 #[.pointer (some ⟨B,0,none⟩)] (addP q) V:=by
 intro W x hx
 obtain ⟨c,d⟩:=x
 have c1:=hx.cell hc
 clear hc
 have hW:Ext W (W.alloc (.cells #[.int .i64 c,.int .i64 d] 63)):=(Ext.refl W).alloc _
 have c3:=hW.cell c1
 show Calls Tryz.prog 168 #[.agg #[.int .i64 (c),.int .i64 (d)],.pointer (some ⟨B,0,none⟩)] W _
 unfold addP
 go_enter Tryz.func168,Tryz.ntmps168
 go_wp2_with fail
 go_ret
 exact ⟨rfl,hW⟩
end Go.Proofs.YtphpppjfogpohaaGreat
namespace Go.Proofs.YtphpppjfogpohaaGreat
open Go.RowKit
theorem refsame_is (A A2:Option Addr) (cap cap2:Nat) (xs ys:List (Int×Int)) (n m:Nat) (b:Bool) (W:World) (hn:xs.length=n) (hm:ys.length=m) (hb:decide (xs=ys)=b) (hlen:n≤1000000) (hlen2:m≤1000000) (hl:SpansAt W A xs) (hl2:SpansAt W A2 ys):
  Calls Tryz.prog 55 #[.slice A n cap,.slice A2 m cap2] W fun e w'=>e= .returned (.bool b)∧Ext W w':=by
 subst hn hm hb
 exact refsame_any A A2 cap cap2 xs ys W (by omega) (by omega) hl hl2
theorem gaps_len {a s:Int} {xs zs:List (Int×Int)} (h:GapsOf a s xs zs):zs.length≤xs.length+1:=by
 by_cases hm:mayB a s=true
 rotate_left
 ·have : zs = [] := by
   cases zs with
   | nil=>rfl
   | cons z zs=>
    have h1:=h.pos z (by simp)
    have:=((h.mem z.1).1 ⟨z,by simp,by omega,by omega⟩).1
    unfold hasB at this
    simp [hm]at this
  subst this;simp
 have hj:=join_canon xs
 obtain ⟨pre,h1,h2,h3⟩:∃pre,pre <+:joinL xs∧(∀x∈pre,x.1 < a+s)∧(pre=joinL xs∨∃x,pre++ [x] <+:joinL xs∧a+s≤x.1):=by
  suffices ∀l:List (Int×Int),∃pre,pre <+:l∧(∀x∈pre,x.1 < a+s)∧(pre=l∨∃x,pre++ [x] <+:l∧a+s≤x.1)from this _
  intro l
  induction l with
  | nil=>exact ⟨[],List.prefix_refl _,by simp,.inl rfl⟩
  | cons y l ih=>
   by_cases hy:y.1 < a+s
   ·obtain ⟨pre,h1,h2,h3⟩:=ih
    refine ⟨y::pre,by simpa using h1,fun x hx=> ?_,?_⟩
    ·rw [List.mem_cons]at hx
     rcases hx with rfl | hx
     ·exact hy
     ·exact h2 x hx
    ·rcases h3 with rfl | ⟨x,hx,hx2⟩
     ·exact .inl rfl
     ·exact .inr ⟨x,by simpa using hx,hx2⟩
   ·exact ⟨[],List.nil_prefix,by simp,.inr ⟨y,by simp,by omega⟩⟩
 have hg:=gaps_all hm hj h1 h2 h3
 have e:=Canon.unique h hg
 rw [e]
 have h4:=foldG_len a pre
 have h5:=h1.length_le
 have h6:=joinL_length xs
 unfold restG
 split <;>simp <;>omega
end Go.Proofs.YtphpppjfogpohaaGreat
namespace Go.Proofs.YtphpppjfogpohaaGreat
open Go.RowKit Go.Shelf
structure StD where
 c0:Int
 c1:Int
 c2:Int
 c3:Int
 snd:Bool
 wA:Option Addr
 ws:List Int
 wc:Nat
 top:Int
 tA:Option Addr
 tb:List (Int×Int)
 tc:Nat
 fA:Option Addr
 fr:List (Int×Int)
 fc:Nat
 sA:Option Addr
 sl:List (Bool×Int×Int)
 sc:Nat
structure StAt (W:World) (s:StD):Prop where
 w:WordsAt W s.wA s.ws
 t:SpansAt W s.tA s.tb
 f:SpansAt W s.fA s.fr
 s:SlotsAt W s.sA s.sl
theorem StAt.ext {W W':World} {s:StD} (h:StAt W s) (hx:Ext W W'):StAt W' s:=⟨h.w.ext hx,h.t.ext hx,h.f.ext hx,h.s.ext hx⟩
theorem StAt.pers {W:World} {s:StD} (h:StAt W s):Pers W (fun w=>StAt w s):=fun _ k=>h.ext k
structure StLe (s:StD):Prop where
 w:s.ws.length≤98304
 t:s.tb.length≤98304
 f:s.fr.length≤98304
 s:s.sl.length≤98304
def eqvS (a b:StD):Bool:=decide (a.c0=b.c0∧a.c1=b.c1∧a.c2=b.c2∧a.c3=b.c3) && decide (a.snd=b.snd) && decide (a.top=b.top) && decide (a.ws=b.ws) && decide (a.tb=b.tb) && decide (a.fr=b.fr) && decide (a.sl=b.sl)
theorem eqvS_iff {a b:StD}:eqvS a b=true↔(a.c0=b.c0∧a.c1=b.c1∧a.c2=b.c2∧a.c3=b.c3)∧a.snd=b.snd∧a.top=b.top∧a.ws=b.ws∧a.tb=b.tb∧a.fr=b.fr∧a.sl=b.sl:=by
 simp [eqvS,and_assoc]
structure StOwn (B:Nat) (W:World) (s:StD):Prop where
 w:Own 61 1 u64C W B (.slice s.wA s.ws.length s.wc) s.ws
 t:Own 63 2 spanC W B (.slice s.tA s.tb.length s.tc) s.tb
 f:Own 63 2 spanC W B (.slice s.fA s.fr.length s.fc) s.fr
 s:Own 73 3 slotC W B (.slice s.sA s.sl.length s.sc) s.sl
theorem StOwn.at {B:Nat} {W:World} {s:StD} (h:StOwn B W s):StAt W s:=⟨(own_row h.w u64Cells (by decide)).1,(own_row h.t spanCells (by decide)).1,(own_row h.f spanCells (by decide)).1,(own_row h.s slotCells (by decide)).1⟩
theorem StOwn.ext {B:Nat} {W W':World} {s:StD} (h:StOwn B W s) (hx:Ext W W'):StOwn B W' s:=⟨h.w.ext hx,h.t.ext hx,h.f.ext hx,h.s.ext hx⟩
theorem refsameU_is (A A2:Option Addr) (cap cap2:Nat) (xs ys:List (Int)) (b:Bool) (h:decide (xs=ys)=b) (W:World) (hlen:xs.length≤9223372036854775807) (hlen2:ys.length≤9223372036854775807) (hl:WordsAt W A xs) (hl2:WordsAt W A2 ys):
  Calls Tryz.prog 54 #[.slice A xs.length cap,.slice A2 ys.length cap2] W fun e w'=>e= .returned (.bool b)∧Ext W w':=by
 rw [←h];exact refsameU_any A A2 cap cap2 xs ys W hlen hlen2 hl hl2
theorem refsameSl_is (A A2:Option Addr) (cap cap2:Nat) (xs ys:List (Bool×Int×Int)) (b:Bool) (h:decide (xs=ys)=b) (W:World) (hlen:xs.length≤9223372036854775807) (hlen2:ys.length≤9223372036854775807) (hl:SlotsAt W A xs) (hl2:SlotsAt W A2 ys):
  Calls Tryz.prog 56 #[.slice A xs.length cap,.slice A2 ys.length cap2] W fun e w'=>e= .returned (.bool b)∧Ext W w':=by
 rw [←h];exact refsameSl_any A A2 cap cap2 xs ys W hlen hlen2 hl hl2
theorem refssame_any (a b:StD) (V:World) (ha:StAt V a) (hb:StAt V b) (la:StLe a) (lb:StLe b):Calls Tryz.prog 15 #[.agg #[.int .i64 a.c0,.int .i64 a.c1,.int .i64 a.c2,.int .i64 a.c3,.bool a.snd,.slice a.wA a.ws.length a.wc,.int .i64 a.top,.slice a.tA a.tb.length a.tc,.slice a.fA a.fr.length a.fc,.slice a.sA a.sl.length a.sc],.agg #[.int .i64 b.c0,.int .i64 b.c1,.int .i64 b.c2,.int .i64 b.c3,.bool b.snd,.slice b.wA b.ws.length b.wc,.int .i64 b.top,.slice b.tA b.tb.length b.tc,.slice b.fA b.fr.length b.fc,.slice b.sA b.sl.length b.sc]] V fun e w'=>e= .returned (.bool (eqvS a b))∧Ext V w':=by
 obtain ⟨c0,c1,c2,c3,sn,wA,ws,wc,top,bA,bs,bc,fA,fs,fc,sA,ss,sc⟩:=a
 obtain ⟨d0,d1,d2,d3,sm,xA,xs,xc,tip,yA,ys,yc,gA,gs,gc,zA,zs,zc⟩:=b
 obtain ⟨hw,ht,hf,hs⟩:=ha
 obtain ⟨kw,kt,kf,ks⟩:=hb
 obtain ⟨l1,l2,l3,l4⟩:=la
 obtain ⟨m1,m2,m3,m4⟩:=lb
 simp only at hw ht hf hs l1 l2 l3 l4 kw kt kf ks m1 m2 m3 m4
 have HW:=pers_row hw
 have HT:=pers_row ht
 have HF:=pers_row hf
 have HS:=pers_row hs
 have KW:=pers_row kw
 have KT:=pers_row kt
 have KF:=pers_row kf
 have KS:=pers_row ks
 have hB:=pers_new2 V #[.int .i64 c0,.int .i64 c1,.int .i64 c2,.int .i64 c3,.bool sn,.slice wA ws.length wc,.int .i64 top,.slice bA bs.length bc,.slice fA fs.length fc,.slice sA ss.length sc] 34 _ rfl (.cells #[.int .i64 d0,.int .i64 d1,.int .i64 d2,.int .i64 d3,.bool sm,.slice xA xs.length xc,.int .i64 tip,.slice yA ys.length yc,.slice gA gs.length gc,.slice zA zs.length zc] 34)
 have hC:=pers_new (V.alloc (.cells #[.int .i64 c0,.int .i64 c1,.int .i64 c2,.int .i64 c3,.bool sn,.slice wA ws.length wc,.int .i64 top,.slice bA bs.length bc,.slice fA fs.length fc,.slice sA ss.length sc] 34)) #[.int .i64 d0,.int .i64 d1,.int .i64 d2,.int .i64 d3,.bool sm,.slice xA xs.length xc,.int .i64 tip,.slice yA ys.length yc,.slice gA gs.length gc,.slice zA zs.length zc] 34 (V.heap.size+1) (by simp)
 have hX:=((Ext.refl V).alloc (.cells #[.int .i64 c0,.int .i64 c1,.int .i64 c2,.int .i64 c3,.bool sn,.slice wA ws.length wc,.int .i64 top,.slice bA bs.length bc,.slice fA fs.length fc,.slice sA ss.length sc] 34)).alloc (.cells #[.int .i64 d0,.int .i64 d1,.int .i64 d2,.int .i64 d3,.bool sm,.slice xA xs.length xc,.int .i64 tip,.slice yA ys.length yc,.slice gA gs.length gc,.slice zA zs.length zc] 34)
 have HX:=zH hX
 (replace HW:=HW.re hX;replace HT:=HT.re hX;replace HF:=HF.re hX;replace HS:=HS.re hX;replace KW:=KW.re hX;replace KT:=KT.re hX;replace KF:=KF.re hX;replace KS:=KS.re hX)
 clear hw ht hf hs kw kt kf ks hX
 by_cases e0:c0=d0
 rotate_left
 ·have HR:Hid (eqvS ⟨c0,c1,c2,c3,sn,wA,ws,wc,top,bA,bs,bc,fA,fs,fc,sA,ss,sc⟩ ⟨d0,d1,d2,d3,sm,xA,xs,xc,tip,yA,ys,yc,gA,gs,gc,zA,zs,zc⟩=false):=zH (by rw [Bool.eq_false_iff];intro h;have:=eqvS_iff.1 h;simp only at this;exact e0 (by first | exact this.1.1 | exact this.1.2.1 | exact this.1.2.2.1 | exact this.1.2.2.2 | exact this.2.1 | exact this.2.2.1 | exact this.2.2.2.1 | exact this.2.2.2.2.1 | exact this.2.2.2.2.2.1 | exact this.2.2.2.2.2.2))
  have q1:(c0==d0)=false:=by rw [beq_eq_false_iff_ne];exact e0
  have q2:(c0 !=d0)=true:=by rw [bne_iff_ne];exact e0
  clear e0
  go_enter Tryz.func15,Tryz.ntmps15
  go_wp2_with fail
  generalize (V.alloc (.cells #[.int .i64 c0,.int .i64 c1,.int .i64 c2,.int .i64 c3,.bool sn,.slice wA ws.length wc,.int .i64 top,.slice bA bs.length bc,.slice fA fs.length fc,.slice sA ss.length sc] 34)).alloc (.cells #[.int .i64 d0,.int .i64 d1,.int .i64 d2,.int .i64 d3,.bool sm,.slice xA xs.length xc,.int .i64 tip,.slice yA ys.length yc,.slice gA gs.length gc,.slice zA zs.length zc] 34)=W at*
  generalize V.heap.size=S at*
  have g1:=hB.cells
  have g2:=hC.cells
  ((first | refine at_baseC (W:=W) ?_ | refine at_base (W:=W) ?_);intro uq;(try go_wp2_with fail))
  go_ret
  exact ⟨ret_bool HR.out.symm,HX.out.trans (ExtOf.ext _)⟩
 subst e0
 by_cases e1:c1=d1
 rotate_left
 ·have HR:Hid (eqvS ⟨c0,c1,c2,c3,sn,wA,ws,wc,top,bA,bs,bc,fA,fs,fc,sA,ss,sc⟩ ⟨c0,d1,d2,d3,sm,xA,xs,xc,tip,yA,ys,yc,gA,gs,gc,zA,zs,zc⟩=false):=zH (by rw [Bool.eq_false_iff];intro h;have:=eqvS_iff.1 h;simp only at this;exact e1 (by first | exact this.1.1 | exact this.1.2.1 | exact this.1.2.2.1 | exact this.1.2.2.2 | exact this.2.1 | exact this.2.2.1 | exact this.2.2.2.1 | exact this.2.2.2.2.1 | exact this.2.2.2.2.2.1 | exact this.2.2.2.2.2.2))
  have q1:(c1==d1)=false:=by rw [beq_eq_false_iff_ne];exact e1
  have q2:(c1 !=d1)=true:=by rw [bne_iff_ne];exact e1
  clear e1
  go_enter Tryz.func15,Tryz.ntmps15
  go_wp2_with fail
  generalize (V.alloc (.cells #[.int .i64 c0,.int .i64 c1,.int .i64 c2,.int .i64 c3,.bool sn,.slice wA ws.length wc,.int .i64 top,.slice bA bs.length bc,.slice fA fs.length fc,.slice sA ss.length sc] 34)).alloc (.cells #[.int .i64 c0,.int .i64 d1,.int .i64 d2,.int .i64 d3,.bool sm,.slice xA xs.length xc,.int .i64 tip,.slice yA ys.length yc,.slice gA gs.length gc,.slice zA zs.length zc] 34)=W at*
  generalize V.heap.size=S at*
  have g1:=hB.cells
  have g2:=hC.cells
  ((first | refine at_baseC (W:=W) ?_ | refine at_base (W:=W) ?_);intro uq;(try go_wp2_with fail))
  go_ret
  exact ⟨ret_bool HR.out.symm,HX.out.trans (ExtOf.ext _)⟩
 subst e1
 by_cases e2:c2=d2
 rotate_left
 ·have HR:Hid (eqvS ⟨c0,c1,c2,c3,sn,wA,ws,wc,top,bA,bs,bc,fA,fs,fc,sA,ss,sc⟩ ⟨c0,c1,d2,d3,sm,xA,xs,xc,tip,yA,ys,yc,gA,gs,gc,zA,zs,zc⟩=false):=zH (by rw [Bool.eq_false_iff];intro h;have:=eqvS_iff.1 h;simp only at this;exact e2 (by first | exact this.1.1 | exact this.1.2.1 | exact this.1.2.2.1 | exact this.1.2.2.2 | exact this.2.1 | exact this.2.2.1 | exact this.2.2.2.1 | exact this.2.2.2.2.1 | exact this.2.2.2.2.2.1 | exact this.2.2.2.2.2.2))
  have q1:(c2==d2)=false:=by rw [beq_eq_false_iff_ne];exact e2
  have q2:(c2 !=d2)=true:=by rw [bne_iff_ne];exact e2
  clear e2
  go_enter Tryz.func15,Tryz.ntmps15
  go_wp2_with fail
  generalize (V.alloc (.cells #[.int .i64 c0,.int .i64 c1,.int .i64 c2,.int .i64 c3,.bool sn,.slice wA ws.length wc,.int .i64 top,.slice bA bs.length bc,.slice fA fs.length fc,.slice sA ss.length sc] 34)).alloc (.cells #[.int .i64 c0,.int .i64 c1,.int .i64 d2,.int .i64 d3,.bool sm,.slice xA xs.length xc,.int .i64 tip,.slice yA ys.length yc,.slice gA gs.length gc,.slice zA zs.length zc] 34)=W at*
  generalize V.heap.size=S at*
  have g1:=hB.cells
  have g2:=hC.cells
  ((first | refine at_baseC (W:=W) ?_ | refine at_base (W:=W) ?_);intro uq;(try go_wp2_with fail))
  go_ret
  exact ⟨ret_bool HR.out.symm,HX.out.trans (ExtOf.ext _)⟩
 subst e2
 by_cases e3:c3=d3
 rotate_left
 ·have HR:Hid (eqvS ⟨c0,c1,c2,c3,sn,wA,ws,wc,top,bA,bs,bc,fA,fs,fc,sA,ss,sc⟩ ⟨c0,c1,c2,d3,sm,xA,xs,xc,tip,yA,ys,yc,gA,gs,gc,zA,zs,zc⟩=false):=zH (by rw [Bool.eq_false_iff];intro h;have:=eqvS_iff.1 h;simp only at this;exact e3 (by first | exact this.1.1 | exact this.1.2.1 | exact this.1.2.2.1 | exact this.1.2.2.2 | exact this.2.1 | exact this.2.2.1 | exact this.2.2.2.1 | exact this.2.2.2.2.1 | exact this.2.2.2.2.2.1 | exact this.2.2.2.2.2.2))
  have q1:(c3==d3)=false:=by rw [beq_eq_false_iff_ne];exact e3
  have q2:(c3 !=d3)=true:=by rw [bne_iff_ne];exact e3
  clear e3
  go_enter Tryz.func15,Tryz.ntmps15
  go_wp2_with fail
  generalize (V.alloc (.cells #[.int .i64 c0,.int .i64 c1,.int .i64 c2,.int .i64 c3,.bool sn,.slice wA ws.length wc,.int .i64 top,.slice bA bs.length bc,.slice fA fs.length fc,.slice sA ss.length sc] 34)).alloc (.cells #[.int .i64 c0,.int .i64 c1,.int .i64 c2,.int .i64 d3,.bool sm,.slice xA xs.length xc,.int .i64 tip,.slice yA ys.length yc,.slice gA gs.length gc,.slice zA zs.length zc] 34)=W at*
  generalize V.heap.size=S at*
  have g1:=hB.cells
  have g2:=hC.cells
  ((first | refine at_baseC (W:=W) ?_ | refine at_base (W:=W) ?_);intro uq;(try go_wp2_with fail))
  go_ret
  exact ⟨ret_bool HR.out.symm,HX.out.trans (ExtOf.ext _)⟩
 subst e3
 by_cases e4:sn=sm
 rotate_left
 ·have HR:Hid (eqvS ⟨c0,c1,c2,c3,sn,wA,ws,wc,top,bA,bs,bc,fA,fs,fc,sA,ss,sc⟩ ⟨c0,c1,c2,c3,sm,xA,xs,xc,tip,yA,ys,yc,gA,gs,gc,zA,zs,zc⟩=false):=zH (by rw [Bool.eq_false_iff];intro h;have:=eqvS_iff.1 h;simp only at this;exact e4 (by first | exact this.1.1 | exact this.1.2.1 | exact this.1.2.2.1 | exact this.1.2.2.2 | exact this.2.1 | exact this.2.2.1 | exact this.2.2.2.1 | exact this.2.2.2.2.1 | exact this.2.2.2.2.2.1 | exact this.2.2.2.2.2.2))
  have q1:(sn==sm)=false:=by rw [beq_eq_false_iff_ne];exact e4
  have q2:(sn !=sm)=true:=by rw [bne_iff_ne];exact e4
  clear e4
  go_enter Tryz.func15,Tryz.ntmps15
  go_wp2_with fail
  generalize (V.alloc (.cells #[.int .i64 c0,.int .i64 c1,.int .i64 c2,.int .i64 c3,.bool sn,.slice wA ws.length wc,.int .i64 top,.slice bA bs.length bc,.slice fA fs.length fc,.slice sA ss.length sc] 34)).alloc (.cells #[.int .i64 c0,.int .i64 c1,.int .i64 c2,.int .i64 c3,.bool sm,.slice xA xs.length xc,.int .i64 tip,.slice yA ys.length yc,.slice gA gs.length gc,.slice zA zs.length zc] 34)=W at*
  generalize V.heap.size=S at*
  have g1:=hB.cells
  have g2:=hC.cells
  ((first | refine at_baseC (W:=W) ?_ | refine at_base (W:=W) ?_);intro uq;(try go_wp2_with fail))
  go_ret
  exact ⟨ret_bool HR.out.symm,HX.out.trans (ExtOf.ext _)⟩
 subst e4
 by_cases e5:top=tip
 rotate_left
 ·have HR:Hid (eqvS ⟨c0,c1,c2,c3,sn,wA,ws,wc,top,bA,bs,bc,fA,fs,fc,sA,ss,sc⟩ ⟨c0,c1,c2,c3,sn,xA,xs,xc,tip,yA,ys,yc,gA,gs,gc,zA,zs,zc⟩=false):=zH (by rw [Bool.eq_false_iff];intro h;have:=eqvS_iff.1 h;simp only at this;exact e5 (by first | exact this.1.1 | exact this.1.2.1 | exact this.1.2.2.1 | exact this.1.2.2.2 | exact this.2.1 | exact this.2.2.1 | exact this.2.2.2.1 | exact this.2.2.2.2.1 | exact this.2.2.2.2.2.1 | exact this.2.2.2.2.2.2))
  have q1:(top==tip)=false:=by rw [beq_eq_false_iff_ne];exact e5
  have q2:(top !=tip)=true:=by rw [bne_iff_ne];exact e5
  clear e5
  go_enter Tryz.func15,Tryz.ntmps15
  go_wp2_with fail
  generalize (V.alloc (.cells #[.int .i64 c0,.int .i64 c1,.int .i64 c2,.int .i64 c3,.bool sn,.slice wA ws.length wc,.int .i64 top,.slice bA bs.length bc,.slice fA fs.length fc,.slice sA ss.length sc] 34)).alloc (.cells #[.int .i64 c0,.int .i64 c1,.int .i64 c2,.int .i64 c3,.bool sn,.slice xA xs.length xc,.int .i64 tip,.slice yA ys.length yc,.slice gA gs.length gc,.slice zA zs.length zc] 34)=W at*
  generalize V.heap.size=S at*
  have g1:=hB.cells
  have g2:=hC.cells
  ((first | refine at_baseC (W:=W) ?_ | refine at_base (W:=W) ?_);intro uq;(try go_wp2_with fail))
  go_ret
  exact ⟨ret_bool HR.out.symm,HX.out.trans (ExtOf.ext _)⟩
 subst e5
 by_cases e6:ws=xs
 rotate_left
 ·have HR:Hid (eqvS ⟨c0,c1,c2,c3,sn,wA,ws,wc,top,bA,bs,bc,fA,fs,fc,sA,ss,sc⟩ ⟨c0,c1,c2,c3,sn,xA,xs,xc,top,yA,ys,yc,gA,gs,gc,zA,zs,zc⟩=false):=zH (by rw [Bool.eq_false_iff];intro h;have:=eqvS_iff.1 h;simp only at this;exact e6 (by first | exact this.1.1 | exact this.1.2.1 | exact this.1.2.2.1 | exact this.1.2.2.2 | exact this.2.1 | exact this.2.2.1 | exact this.2.2.2.1 | exact this.2.2.2.2.1 | exact this.2.2.2.2.2.1 | exact this.2.2.2.2.2.2))
  have HB1:Hid (decide (ws=xs)=false):=zH (by simpa using e6)
  clear e6
  go_enter Tryz.func15,Tryz.ntmps15
  go_wp2_with fail
  generalize (V.alloc (.cells #[.int .i64 c0,.int .i64 c1,.int .i64 c2,.int .i64 c3,.bool sn,.slice wA ws.length wc,.int .i64 top,.slice bA bs.length bc,.slice fA fs.length fc,.slice sA ss.length sc] 34)).alloc (.cells #[.int .i64 c0,.int .i64 c1,.int .i64 c2,.int .i64 c3,.bool sn,.slice xA xs.length xc,.int .i64 top,.slice yA ys.length yc,.slice gA gs.length gc,.slice zA zs.length zc] 34)=W at*
  generalize V.heap.size=S at*
  have g1:=hB.cells
  have g2:=hC.cells
  ((first | refine at_baseC (W:=W) ?_ | refine at_base (W:=W) ?_);intro uq;(try go_wp2_with fail))
  (refine (refsameU_is wA xA wc xc ws xs false HB1.out _ (by omega) (by omega) (HW.at zE) (KW.at zE)).mono ?_;rintro e wq ⟨rfl,hx⟩;replace hx:=Ext.trans (a:=W) zE hx;obtain ⟨uq,rfl⟩:∃u:ExtOf W,wq=u.1:=⟨⟨wq,hx⟩,rfl⟩;clear hx;go_wp2_with fail)
  go_ret
  exact ⟨ret_bool HR.out.symm,HX.out.trans (ExtOf.ext _)⟩
 subst e6
 by_cases e7:bs=ys
 rotate_left
 ·have HR:Hid (eqvS ⟨c0,c1,c2,c3,sn,wA,ws,wc,top,bA,bs,bc,fA,fs,fc,sA,ss,sc⟩ ⟨c0,c1,c2,c3,sn,xA,ws,xc,top,yA,ys,yc,gA,gs,gc,zA,zs,zc⟩=false):=zH (by rw [Bool.eq_false_iff];intro h;have:=eqvS_iff.1 h;simp only at this;exact e7 (by first | exact this.1.1 | exact this.1.2.1 | exact this.1.2.2.1 | exact this.1.2.2.2 | exact this.2.1 | exact this.2.2.1 | exact this.2.2.2.1 | exact this.2.2.2.2.1 | exact this.2.2.2.2.2.1 | exact this.2.2.2.2.2.2))
  have HB2:Hid (decide (bs=ys)=false):=zH (by simpa using e7)
  clear e7
  go_enter Tryz.func15,Tryz.ntmps15
  go_wp2_with fail
  generalize (V.alloc (.cells #[.int .i64 c0,.int .i64 c1,.int .i64 c2,.int .i64 c3,.bool sn,.slice wA ws.length wc,.int .i64 top,.slice bA bs.length bc,.slice fA fs.length fc,.slice sA ss.length sc] 34)).alloc (.cells #[.int .i64 c0,.int .i64 c1,.int .i64 c2,.int .i64 c3,.bool sn,.slice xA ws.length xc,.int .i64 top,.slice yA ys.length yc,.slice gA gs.length gc,.slice zA zs.length zc] 34)=W at*
  generalize V.heap.size=S at*
  have g1:=hB.cells
  have g2:=hC.cells
  ((first | refine at_baseC (W:=W) ?_ | refine at_base (W:=W) ?_);intro uq;(try go_wp2_with fail))
  (refine (refsameU_is wA xA wc xc ws ws true (by simp) _ (by omega) (by omega) (HW.at zE) (KW.at zE)).mono ?_;rintro e wq ⟨rfl,hx⟩;replace hx:=Ext.trans (a:=W) zE hx;obtain ⟨uq,rfl⟩:∃u:ExtOf W,wq=u.1:=⟨⟨wq,hx⟩,rfl⟩;clear hx;go_wp2_with fail)
  (refine (refsame_is bA yA bc yc bs ys _ _ false _ rfl rfl HB2.out (by omega) (by omega) (HT.at zE) (KT.at zE)).mono ?_;rintro e wq ⟨rfl,hx⟩;replace hx:=Ext.trans (a:=W) zE hx;obtain ⟨uq,rfl⟩:∃u:ExtOf W,wq=u.1:=⟨⟨wq,hx⟩,rfl⟩;clear hx;go_wp2_with fail)
  go_ret
  exact ⟨ret_bool HR.out.symm,HX.out.trans (ExtOf.ext _)⟩
 subst e7
 by_cases e8:fs=gs
 rotate_left
 ·have HR:Hid (eqvS ⟨c0,c1,c2,c3,sn,wA,ws,wc,top,bA,bs,bc,fA,fs,fc,sA,ss,sc⟩ ⟨c0,c1,c2,c3,sn,xA,ws,xc,top,yA,bs,yc,gA,gs,gc,zA,zs,zc⟩=false):=zH (by rw [Bool.eq_false_iff];intro h;have:=eqvS_iff.1 h;simp only at this;exact e8 (by first | exact this.1.1 | exact this.1.2.1 | exact this.1.2.2.1 | exact this.1.2.2.2 | exact this.2.1 | exact this.2.2.1 | exact this.2.2.2.1 | exact this.2.2.2.2.1 | exact this.2.2.2.2.2.1 | exact this.2.2.2.2.2.2))
  have HB3:Hid (decide (fs=gs)=false):=zH (by simpa using e8)
  clear e8
  go_enter Tryz.func15,Tryz.ntmps15
  go_wp2_with fail
  generalize (V.alloc (.cells #[.int .i64 c0,.int .i64 c1,.int .i64 c2,.int .i64 c3,.bool sn,.slice wA ws.length wc,.int .i64 top,.slice bA bs.length bc,.slice fA fs.length fc,.slice sA ss.length sc] 34)).alloc (.cells #[.int .i64 c0,.int .i64 c1,.int .i64 c2,.int .i64 c3,.bool sn,.slice xA ws.length xc,.int .i64 top,.slice yA bs.length yc,.slice gA gs.length gc,.slice zA zs.length zc] 34)=W at*
  generalize V.heap.size=S at*
  have g1:=hB.cells
  have g2:=hC.cells
  ((first | refine at_baseC (W:=W) ?_ | refine at_base (W:=W) ?_);intro uq;(try go_wp2_with fail))
  (refine (refsameU_is wA xA wc xc ws ws true (by simp) _ (by omega) (by omega) (HW.at zE) (KW.at zE)).mono ?_;rintro e wq ⟨rfl,hx⟩;replace hx:=Ext.trans (a:=W) zE hx;obtain ⟨uq,rfl⟩:∃u:ExtOf W,wq=u.1:=⟨⟨wq,hx⟩,rfl⟩;clear hx;go_wp2_with fail)
  (refine (refsame_is bA yA bc yc bs bs _ _ true _ rfl rfl (by simp) (by omega) (by omega) (HT.at zE) (KT.at zE)).mono ?_;rintro e wq ⟨rfl,hx⟩;replace hx:=Ext.trans (a:=W) zE hx;obtain ⟨uq,rfl⟩:∃u:ExtOf W,wq=u.1:=⟨⟨wq,hx⟩,rfl⟩;clear hx;go_wp2_with fail)
  (refine (refsame_is fA gA fc gc fs gs _ _ false _ rfl rfl HB3.out (by omega) (by omega) (HF.at zE) (KF.at zE)).mono ?_;rintro e wq ⟨rfl,hx⟩;replace hx:=Ext.trans (a:=W) zE hx;obtain ⟨uq,rfl⟩:∃u:ExtOf W,wq=u.1:=⟨⟨wq,hx⟩,rfl⟩;clear hx;go_wp2_with fail)
  go_ret
  exact ⟨ret_bool HR.out.symm,HX.out.trans (ExtOf.ext _)⟩
 subst e8
 by_cases e9:ss=zs
 rotate_left
 ·have HR:Hid (eqvS ⟨c0,c1,c2,c3,sn,wA,ws,wc,top,bA,bs,bc,fA,fs,fc,sA,ss,sc⟩ ⟨c0,c1,c2,c3,sn,xA,ws,xc,top,yA,bs,yc,gA,fs,gc,zA,zs,zc⟩=false):=zH (by rw [Bool.eq_false_iff];intro h;have:=eqvS_iff.1 h;simp only at this;exact e9 (by first | exact this.1.1 | exact this.1.2.1 | exact this.1.2.2.1 | exact this.1.2.2.2 | exact this.2.1 | exact this.2.2.1 | exact this.2.2.2.1 | exact this.2.2.2.2.1 | exact this.2.2.2.2.2.1 | exact this.2.2.2.2.2.2))
  have HB4:Hid (decide (ss=zs)=false):=zH (by simpa using e9)
  clear e9
  go_enter Tryz.func15,Tryz.ntmps15
  go_wp2_with fail
  generalize (V.alloc (.cells #[.int .i64 c0,.int .i64 c1,.int .i64 c2,.int .i64 c3,.bool sn,.slice wA ws.length wc,.int .i64 top,.slice bA bs.length bc,.slice fA fs.length fc,.slice sA ss.length sc] 34)).alloc (.cells #[.int .i64 c0,.int .i64 c1,.int .i64 c2,.int .i64 c3,.bool sn,.slice xA ws.length xc,.int .i64 top,.slice yA bs.length yc,.slice gA fs.length gc,.slice zA zs.length zc] 34)=W at*
  generalize V.heap.size=S at*
  have g1:=hB.cells
  have g2:=hC.cells
  ((first | refine at_baseC (W:=W) ?_ | refine at_base (W:=W) ?_);intro uq;(try go_wp2_with fail))
  (refine (refsameU_is wA xA wc xc ws ws true (by simp) _ (by omega) (by omega) (HW.at zE) (KW.at zE)).mono ?_;rintro e wq ⟨rfl,hx⟩;replace hx:=Ext.trans (a:=W) zE hx;obtain ⟨uq,rfl⟩:∃u:ExtOf W,wq=u.1:=⟨⟨wq,hx⟩,rfl⟩;clear hx;go_wp2_with fail)
  (refine (refsame_is bA yA bc yc bs bs _ _ true _ rfl rfl (by simp) (by omega) (by omega) (HT.at zE) (KT.at zE)).mono ?_;rintro e wq ⟨rfl,hx⟩;replace hx:=Ext.trans (a:=W) zE hx;obtain ⟨uq,rfl⟩:∃u:ExtOf W,wq=u.1:=⟨⟨wq,hx⟩,rfl⟩;clear hx;go_wp2_with fail)
  (refine (refsame_is fA gA fc gc fs fs _ _ true _ rfl rfl (by simp) (by omega) (by omega) (HF.at zE) (KF.at zE)).mono ?_;rintro e wq ⟨rfl,hx⟩;replace hx:=Ext.trans (a:=W) zE hx;obtain ⟨uq,rfl⟩:∃u:ExtOf W,wq=u.1:=⟨⟨wq,hx⟩,rfl⟩;clear hx;go_wp2_with fail)
  (refine (refsameSl_is sA zA sc zc ss zs false HB4.out _ (by omega) (by omega) (HS.at zE) (KS.at zE)).mono ?_;rintro e wq ⟨rfl,hx⟩;replace hx:=Ext.trans (a:=W) zE hx;obtain ⟨uq,rfl⟩:∃u:ExtOf W,wq=u.1:=⟨⟨wq,hx⟩,rfl⟩;clear hx;go_wp2_with fail)
  go_ret
  exact ⟨ret_bool HR.out.symm,HX.out.trans (ExtOf.ext _)⟩
 subst e9
 have HR:Hid (eqvS ⟨c0,c1,c2,c3,sn,wA,ws,wc,top,bA,bs,bc,fA,fs,fc,sA,ss,sc⟩ ⟨c0,c1,c2,c3,sn,xA,ws,xc,top,yA,bs,yc,gA,fs,gc,zA,ss,zc⟩=true):=zH (by simp [eqvS])
 go_enter Tryz.func15,Tryz.ntmps15
 go_wp2_with fail
 generalize (V.alloc (.cells #[.int .i64 c0,.int .i64 c1,.int .i64 c2,.int .i64 c3,.bool sn,.slice wA ws.length wc,.int .i64 top,.slice bA bs.length bc,.slice fA fs.length fc,.slice sA ss.length sc] 34)).alloc (.cells #[.int .i64 c0,.int .i64 c1,.int .i64 c2,.int .i64 c3,.bool sn,.slice xA ws.length xc,.int .i64 top,.slice yA bs.length yc,.slice gA fs.length gc,.slice zA ss.length zc] 34)=W at*
 generalize V.heap.size=S at*
 have g1:=hB.cells
 have g2:=hC.cells
 ((first | refine at_baseC (W:=W) ?_ | refine at_base (W:=W) ?_);intro uq;(try go_wp2_with fail))
 (refine (refsameU_is wA xA wc xc ws ws true (by simp) _ (by omega) (by omega) (HW.at zE) (KW.at zE)).mono ?_;rintro e wq ⟨rfl,hx⟩;replace hx:=Ext.trans (a:=W) zE hx;obtain ⟨uq,rfl⟩:∃u:ExtOf W,wq=u.1:=⟨⟨wq,hx⟩,rfl⟩;clear hx;go_wp2_with fail)
 (refine (refsame_is bA yA bc yc bs bs _ _ true _ rfl rfl (by simp) (by omega) (by omega) (HT.at zE) (KT.at zE)).mono ?_;rintro e wq ⟨rfl,hx⟩;replace hx:=Ext.trans (a:=W) zE hx;obtain ⟨uq,rfl⟩:∃u:ExtOf W,wq=u.1:=⟨⟨wq,hx⟩,rfl⟩;clear hx;go_wp2_with fail)
 (refine (refsame_is fA gA fc gc fs fs _ _ true _ rfl rfl (by simp) (by omega) (by omega) (HF.at zE) (KF.at zE)).mono ?_;rintro e wq ⟨rfl,hx⟩;replace hx:=Ext.trans (a:=W) zE hx;obtain ⟨uq,rfl⟩:∃u:ExtOf W,wq=u.1:=⟨⟨wq,hx⟩,rfl⟩;clear hx;go_wp2_with fail)
 (refine (refsameSl_is sA zA sc zc ss ss true (by simp) _ (by omega) (by omega) (HS.at zE) (KS.at zE)).mono ?_;rintro e wq ⟨rfl,hx⟩;replace hx:=Ext.trans (a:=W) zE hx;obtain ⟨uq,rfl⟩:∃u:ExtOf W,wq=u.1:=⟨⟨wq,hx⟩,rfl⟩;clear hx;go_wp2_with fail)
 go_ret
 exact ⟨ret_bool HR.out.symm,HX.out.trans (ExtOf.ext _)⟩
theorem own_lt {α:Type} {e:TypeId} {n:Nat} {f:α→List Value} {w:World} {B:Nat} {v:Value} {xs:List α} (h:Own e n f w B v xs) {g:Nat} (hg:v.ownBlock=some g):B≤g∧g < w.heap.size:=by
 rcases h.2 with ⟨rfl,_⟩ | ⟨b,cap,cur,rfl,hb,hgt,_⟩
 ·cases hg
 ·obtain rfl:b=g:=by simpa [Value.ownBlock]using hg
  exact ⟨hb,lt_of_heap hgt⟩
end Go.Proofs.YtphpppjfogpohaaGreat
