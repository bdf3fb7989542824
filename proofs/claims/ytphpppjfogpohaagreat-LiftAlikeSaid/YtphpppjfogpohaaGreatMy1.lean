/- Merged by program (merge.py) out of: Base, SpanA, Ref03A, SpanB, LayoutA, LayoutB. -/
import Derived.Test.YtphpppjfogpohaaGreatMy0
import Derived.Test.YtphpppjfogpohaaGreatRows
import Derived.WalkKit
import Derived.BigQuiet
import Derived.Lib.Hide
import Derived.Deep.RegionHeld3
import Derived.ProofKit
import Derived.OpenShut
import Derived.Lib.SmallJoins
import Derived.ChangeSame
import Derived.Carry
set_option linter.unusedSimpArgs false
set_option linter.unusedVariables false
set_option maxRecDepth 100000
set_option maxHeartbeats 16000000
namespace Go.Proofs.YtphpppjfogpohaaGreat
open Go.RowKit
def Ext (w w':World):Prop:=Below w.heap.size w w'
theorem Ext.refl (w:World):Ext w w:=Below.refl _ _
abbrev zo := @Ext.refl
theorem Ext.trans {a b c:World} (h:Ext a b) (k:Ext b c):Ext a c:=
 Below.trans h (Below.mono k (Below.size h))
abbrev zt := @Ext.trans
theorem Ext.drew {a w:World} (h:Ext a w):Ext a w.drew:=Below.drew h
abbrev zx := @Ext.drew
theorem Ext.alloc {a w:World} (h:Ext a w) (o:Obj):Ext a (w.alloc o):=Below.alloc h (Below.size h) o
abbrev zz := @Ext.alloc
theorem Ext.cell {w w':World} (h:Ext w w') {p:Addr} {v:Value} (hc:w.cell? p=some v):w'.cell? p=some v:=by
 have hb:p.block < w.heap.size:=by
  unfold World.cell? at hc
  rcases Nat.lt_or_ge p.block w.heap.size with h | h
  ·exact h
  ·rw [Array.getElem?_eq_none h]at hc;cases hc
 rw [Below.cell h hb];exact hc
theorem Ext.size {w w':World} (h:Ext w w'):w.heap.size≤w'.heap.size:=Below.size h
abbrev zv := @Ext.size
theorem Ext.setCell {a w:World} (h:Ext a w) {p:Addr} (hp:a.heap.size≤p.block) (u:Value):Ext a (w.setCell p u):=Below.setCell h hp u
abbrev AL := @Ext.setCell
theorem Ext.below {w w':World} (h:Ext w w'):Below w.heap.size w w':=h
theorem bD (w:World) (cs:Array Value) (t:TypeId) (i:Nat) (v:Value) (h:cs[i]?=some v) (w':World) (hw:Ext (w.alloc (.cells cs t)) w'):
  w'.cell? ⟨w.heap.size,i,none⟩=some v:=by
 refine Ext.cell hw ?_
 simpa using h
theorem cu {w w1:World} (h:Ext w w1):(∀b o,b < w.heap.size→w1.cell? ⟨b,o,none⟩=w.cell? ⟨b,o,none⟩)∧(∀b o,b < w.heap.size→w1.frozen? ⟨b,o,none⟩=w.frozen? ⟨b,o,none⟩)∧w.heap.size≤w1.heap.size:=
 ⟨fun b o hb=>Below.cell (p:=⟨b,o,none⟩) h hb,fun b o hb=>Below.frozen (p:=⟨b,o,none⟩) h hb,Below.size h⟩
theorem aD {a b:Bool} (h:a=b):Ending.returned (.bool a)= .returned (.bool b):=by rw [h]
theorem ak {k:IntKind} {a b:Int} (h:a=b):Ending.returned (.int k a)= .returned (.int k b):=by rw [h]
theorem vD {a:Int} (h:(Lit.int .i64 a).wf=true): -9223372036854775808≤a∧a≤9223372036854775807:=by
 simpa [Lit.wf,IntKind.min,IntKind.max,IntKind.signed,IntKind.bits]using h
theorem Ext.drewN {u w:World} (h:Ext u w) (n:Nat):Ext u (w.drewN n):=⟨h.os,h.tape,h.output,h.size,h.block⟩
theorem Ext.block {w w':World} (h:Ext w w') {k:Nat} (hk:k < w.heap.size):w'.heap[k]?=w.heap[k]?:=Below.block h k hk
def ExtOf (W:World):Type:= {w:World//Ext W w}
instance ExtOf.inhabited (W:World):Nonempty (ExtOf W):=⟨⟨W,zo W⟩⟩
theorem zE {W w : World} (h : Ext W w := by repeat (first | (with_reducible exact zo _) | (with_reducible exact zu _) | (with_reducible assumption) | (with_reducible refine zx ?_) | (with_reducible refine zz ?_ _))) : Ext W w := h
theorem zF {W w : World} (h : Ext W w := by repeat (first | (with_reducible exact zo _) | (with_reducible assumption) | (with_reducible refine zx ?_) | (with_reducible refine zz ?_ _) | ((with_reducible refine AL ?_ ?_ _); rotate_left; (focus (simp; try omega))) | (with_reducible refine zt ?_ (by assumption)))) : Ext W w := h
theorem zG {W w : World} (h : Ext W w := by repeat (first | (with_reducible exact zo _) | (with_reducible assumption) | (with_reducible refine zx ?_) | (with_reducible refine zz ?_ _))) : Ext W w := h
theorem zH {p : Prop} (h : p) : Hid p := Lib.hid h
theorem Calls.ext_of {P:Program} {f:FuncId} {args:Array Value} {W:World} {u:ExtOf W} {v:Value} (h:Calls P f args u.1 fun e w'=>e= .returned v∧Ext u.1 w'):
  Calls P f args u.1 fun e w''=>e= .returned v∧∃u':ExtOf W,w''=u'.1:=
 h.mono fun _ w' ⟨he,hx⟩=>⟨he,⟨w',u.2.trans hx⟩,rfl⟩
abbrev zq := @Calls.ext_of
theorem aC {P:Program} {W:World} {id:Nat} {Q:Exit→Act→World→Prop} {a:Act} {w:World} {l:List Oper} (hm:P.follows .mixedOrders=true) (hB:Region.lexB .any l.toArray=true) (hx:Ext W w)
  (h:wpQuiet P l.toArray (fun w'=>∃u:ExtOf W,w'=u.1) (fun a'=>∀w',Ext W w'→Q .normal a' w') l a):(Code.region id l.toArray true).wp P Q a w:=
 wp_region_quiet (C:=fun w'=>∃u:ExtOf W,w'=u.1) hm hB ⟨⟨_,zx hx⟩,rfl⟩ (by
  have:(fun a'=>∀w',(∃u:ExtOf W,w'=u.1)→Q .normal a' w')=(fun a'=>∀w',Ext W w'→Q .normal a' w'):=by
   funext a'
   exact propext ⟨fun h w' hw=>h w' ⟨⟨w',hw⟩,rfl⟩,fun h w' ⟨u,hu⟩=>hu ▸ h _ u.2⟩
  rw [this]
  simpa using h)
def RowAt {α:Type} (n:Nat) (f:α→List Value) (w:World) (A:Option Addr) (xs:List α):Prop:=
 ∃b off,(xs≠ []→A=some ⟨b,off,none⟩)∧∀i x,xs[i]?=some x→∀j v,(f x)[j]?=some v→w.cell? ⟨b,off+i*n+j,none⟩=some v
theorem RowAt.ext {α:Type} {n:Nat} {f:α→List Value} {w w':World} {A:Option Addr} {xs:List α} (h:RowAt n f w A xs) (he:Ext w w'):RowAt n f w' A xs:=by
 obtain ⟨b,off,hA,hc⟩:=h
 exact ⟨b,off,hA,fun i x hx j v hv=>he.cell (hc i x hx j v hv)⟩
abbrev AE := @RowAt.ext
theorem RowAt.get {α:Type} {n:Nat} {f:α→List Value} {w:World} {A:Option Addr} {xs:List α} (h:RowAt n f w A xs) (hne:0 < xs.length):
  ∃b off,A=some ⟨b,off,none⟩∧∀i x,xs[i]?=some x→∀j v,(f x)[j]?=some v→w.cell? ⟨b,off+i*n+j,none⟩=some v:=by
 obtain ⟨b,off,hA,hc⟩:=h
 exact ⟨b,off,hA (by intro e;subst e;simp at hne),hc⟩
def intC (z:Int):List Value:= [.int .i64 z]
def aa (x:Int×Int):List Value:= [.int .i64 x.1,.int .i64 x.2]
abbrev IntsAt (w:World) (A:Option Addr) (zs:List Int):Prop:=RowAt 1 intC w A zs
abbrev SpansAt (w:World) (A:Option Addr) (xs:List (Int×Int)):Prop:=RowAt 2 aa w A xs
theorem b5 {w:World} {b off:Nat} {zs:List Int} (hc:∀i x,zs[i]?=some x→∀j v,(intC x)[j]?=some v→w.cell? ⟨b,off+i*1+j,none⟩=some v) {k:Nat} (hk:k < zs.length):
  w.cell? ⟨b,off+k,none⟩=some (.int .i64 (zs.getD k 0)):=by
 have h:=hc k zs[k] (by simp [hk]) 0 _ rfl
 simpa [hk]using h
theorem aQ {w:World} {b off:Nat} {xs:List (Int×Int)} (hc:∀i x,xs[i]?=some x→∀j v,(aa x)[j]?=some v→w.cell? ⟨b,off+i*2+j,none⟩=some v) {k:Nat} (hk:k < xs.length):
  w.cell? ⟨b,off+k*2,none⟩=some (.int .i64 (xs.getD k (0,0)).1)∧w.cell? ⟨b,off+k*2+1,none⟩=some (.int .i64 (xs.getD k (0,0)).2):=by
 have h0:=hc k xs[k] (by simp [hk]) 0 _ rfl
 have h1:=hc k xs[k] (by simp [hk]) 1 _ rfl
 exact ⟨by simpa [hk]using h0,by simpa [hk]using h1⟩
section
open Go.WideShapes Go.ChangeShapes
variable {H : Type} {enc : TypeId × Value → H} {P : Program}
theorem pH {f:Func} {s:ChangeSpec} {apart fresh handsOn again:Bool} {W W':World} {args:Array Value} {v:Value} {ds gs:List (DataW H)} {before pa pv:List MemPlace}
  (hW:DataW.Whole enc P f.params.toList s.vars apart W args.toList ds gs before)
  (hres:∀(b:Nat) (sp:Nat→Bool) (hd:Bool),DataW.TrodAll enc P W' b sp hd f.resultTypes.toList (v.resultList f.resultTypes.size) (s.fn H (ds++gs)).results [])
  (hargs:DataW.TrodAll enc P W' 0 (fun b=>decide (b < W.heap.size)) true f.params.toList args.toList (s.fn H (ds++gs)).args pa)
  (hvars:∀sp:Nat→Bool,(∀p∈before,sp p.block=true)→DataW.TrodVars enc P W' sp s.vars (s.fn H (ds++gs)).vars pv)
  (hps:before=pa++pv) (hb:Below W.heap.size W W') (hag:again=false):
  s.post enc P f apart fresh handsOn again W args v W':=by
 subst hag
 have hlt:∀p∈before,p.block < W.heap.size:=fun p hp=>hW.lt p hp
 have hold:∀p∈before,(fun b=>decide (b < W.heap.size)) p.block=true:=fun p hp=>by simpa using hlt p hp
 refine ⟨ds,gs,before,[],pa,pv,hW,hres _ _ _,hargs,hvars _ hold,World.keptBut_mono (fun p hp=>⟨hp,?_⟩) (hb.frame (·∈before)),fun h=>by cases h⟩
 rw [hps,List.mem_append]at hp
 exact Or.inr hp
end
end Go.Proofs.YtphpppjfogpohaaGreat
namespace Go.Proofs.YtphpppjfogpohaaGreat
open Go.RowKit
def mayB (a s:Int):Bool:=decide (0≤a∧a≤1099511627776∧1≤s∧s≤1099511627776 - a)
theorem xX (a s:Int) (w:World):
  Calls Tryz.prog 198 #[.agg #[.int .i64 (a),.int .i64 (s)]] w fun e w'=>e= .returned (.int .i64 (wrap64 (a+s)))∧Ext w w':=by
 go_enter Tryz.func198,Tryz.ntmps198
 go_wp2
 go_ret
 exact ⟨rfl,(zo _).alloc _⟩
theorem sX (a s:Int) (w:World):
  Calls Tryz.prog 90 #[.agg #[.int .i64 (a),.int .i64 (s)]] w fun e w'=>e= .returned (.bool (mayB a s))∧Ext w w':=by
 go_enter Tryz.func90,Tryz.ntmps90
 go_wp2
 all_goals go_ret
 all_goals exact ⟨aD (by unfold mayB;simp [*];try omega),(zo _).alloc _⟩
theorem cZ (a s:Int) (w:World):
  Calls Tryz.prog 100 #[.agg #[.int .i64 (a),.int .i64 (s)]] w fun e w'=>e= .returned (.bool (mayB a s))∧Ext w w':=by
 go_enter Tryz.func100,Tryz.ntmps100
 go_wp2
 all_goals go_ret
 all_goals exact ⟨aD (by unfold mayB;simp [*];try omega),(zo _).alloc _⟩
def hasB (a s p:Int):Bool:=mayB a s && decide (a≤p∧p < a+s)
theorem am {a s:Int} (h:mayB a s=true):0≤a∧a≤1099511627776∧1≤s∧s≤1099511627776 - a:=by
 simpa [mayB]using h
theorem gH (a s p:Int) (w:World):
  Calls Tryz.prog 140 #[.agg #[.int .i64 (a),.int .i64 (s)],.int .i64 p] w fun e w'=>e= .returned (.bool (hasB a s p))∧Ext w w':=by
 by_cases hb:mayB a s=true
 ·obtain ⟨h1,h2,h3,h4⟩:=am hb
  go_enter Tryz.func140,Tryz.ntmps140
  go_wp2_with (go_at_call 100;refine (cZ _ _ _).mono ?_;rintro e w1 ⟨rfl,hx⟩;obtain ⟨hcc,hff,hzz⟩:=cu hx;(try simp only [World.size_alloc]at hzz);(try (have hz0:=Nat.lt_of_succ_le hzz));(try (have hz1:=Nat.lt_of_succ_lt hz0));(try (have hz2:=Nat.lt_of_succ_lt hz1));(try (have hz3:=Nat.lt_of_succ_lt hz2)))
  all_goals go_ret
  all_goals exact ⟨aD (by unfold hasB;rw [Bool.eq_iff_iff];simp [*];try omega),zF⟩
 ·have hb':mayB a s=false:=by simpa using hb
  go_enter Tryz.func140,Tryz.ntmps140
  go_wp2_with (go_at_call 100;refine (cZ _ _ _).mono ?_;rintro e w1 ⟨rfl,hx⟩;obtain ⟨hcc,hff,hzz⟩:=cu hx;(try simp only [World.size_alloc]at hzz);(try (have hz0:=Nat.lt_of_succ_le hzz));(try (have hz1:=Nat.lt_of_succ_lt hz0));(try (have hz2:=Nat.lt_of_succ_lt hz1));(try (have hz3:=Nat.lt_of_succ_lt hz2)))
  go_ret
  exact ⟨aD (by unfold hasB;simp [hb']),zF⟩
def cQ (a s c d:Int):Bool:=mayB a s && mayB c d && (hasB a s c || hasB c d a)
theorem il (a s c d:Int) (w:World):
  Calls Tryz.prog 101 #[.agg #[.int .i64 (a),.int .i64 (s)],.agg #[.int .i64 (c),.int .i64 (d)]] w fun e w'=>e= .returned (.bool (cQ a s c d))∧Ext w w':=by
 go_enter Tryz.func101,Tryz.ntmps101
 go_wp2_with fail
 have hW:Ext w ((w.alloc (.cells #[.int .i64 a,.int .i64 s] 63)).alloc (.cells #[.int .i64 c,.int .i64 d] 63)):=((zo w).alloc _).alloc _
 have k0:=bD w #[.int .i64 a,.int .i64 s] 63 0 _ rfl
 have k1:=bD w #[.int .i64 a,.int .i64 s] 63 1 _ rfl
 have k2:=bD (w.alloc (.cells #[.int .i64 a,.int .i64 s] 63)) #[.int .i64 c,.int .i64 d] 63 0 _ rfl
 have k3:=bD (w.alloc (.cells #[.int .i64 a,.int .i64 s] 63)) #[.int .i64 c,.int .i64 d] 63 1 _ rfl
 replace k0:∀w',Ext ((w.alloc (.cells #[.int .i64 a,.int .i64 s] 63)).alloc (.cells #[.int .i64 c,.int .i64 d] 63)) w'→_:=fun w' h=>k0 w' (((zo _).alloc _).trans h)
 replace k1:∀w',Ext ((w.alloc (.cells #[.int .i64 a,.int .i64 s] 63)).alloc (.cells #[.int .i64 c,.int .i64 d] 63)) w'→_:=fun w' h=>k1 w' (((zo _).alloc _).trans h)
 simp only [World.size_alloc]at k2 k3
 generalize (w.alloc (.cells #[.int .i64 a,.int .i64 s] 63)).alloc (.cells #[.int .i64 c,.int .i64 d] 63)=W at*
 have hs0:Ext W W:=zo W
 cases h1:mayB a s <;>cases h2:mayB c d <;>cases h3:hasB a s c
 all_goals go_wp2_with (first | (go_at_call 100;refine (cZ _ _ _).mono ?_;rintro e w1 ⟨rfl,hx0⟩;have hx:=zt (a:=W) aS hx0;clear hx0) | (go_at_call 140;refine (gH _ _ _ _).mono ?_;rintro e w1 ⟨rfl,hx0⟩;have hx:=zt (a:=W) aS hx0;clear hx0))
 all_goals go_ret
 all_goals exact ⟨aD (by unfold cQ;simp [*]),hW.trans (by assumption)⟩
def fY (xs:List (Int×Int)):Bool:=decide (∀i,i < xs.length→mayB (xs.getD i (0,0)).1 (xs.getD i (0,0)).2=true∧
 ∀k,k < i→cQ (xs.getD i (0,0)).1 (xs.getD i (0,0)).2 (xs.getD k (0,0)).1 (xs.getD k (0,0)).2=false)
theorem t6 {xs:List (Int×Int)} (h:∀i,i < xs.length→mayB (xs.getD i (0,0)).1 (xs.getD i (0,0)).2=true∧
  ∀k,k < i→cQ (xs.getD i (0,0)).1 (xs.getD i (0,0)).2 (xs.getD k (0,0)).1 (xs.getD k (0,0)).2=false):fY xs=true:=decide_eq_true h
theorem t7 {xs:List (Int×Int)} {i:Nat} (hi:i < xs.length) (h:mayB (xs.getD i (0,0)).1 (xs.getD i (0,0)).2=false):fY xs=false:=
 decide_eq_false fun H=>by rw [(H i hi).1]at h;cases h
theorem t8 {xs:List (Int×Int)} {i k:Nat} (hi:i < xs.length) (hk:k < i) (h:cQ (xs.getD i (0,0)).1 (xs.getD i (0,0)).2 (xs.getD k (0,0)).1 (xs.getD k (0,0)).2=true):fY xs=false:=
 decide_eq_false fun H=>by rw [(H i hi).2 k hk]at h;cases h
theorem np (A:Option Addr) (cap:Nat) (xs:List (Int×Int)) (W:World) (hlen:xs.length≤9223372036854775807) (hl:SpansAt W A xs):
  Calls Tryz.prog 179 #[.slice A xs.length cap] W fun e w'=>e= .returned (.bool (fY xs))∧Ext W w':=by
 have HL:=zH hl
 clear hl
 go_enter Tryz.func179,Tryz.ntmps179
 go_wp2_with fail
 go_loopw [3] (fun i wr=>∃k:Nat,k≤xs.length∧i= .int .i64 k∧Ext W wr∧Hid (∀i,i < k→mayB (xs.getD i (0,0)).1 (xs.getD i (0,0)).2=true∧
  ∀k,k < i→cQ (xs.getD i (0,0)).1 (xs.getD i (0,0)).2 (xs.getD k (0,0)).1 (xs.getD k (0,0)).2=false)) (fun i _=>xs.length - (intOf i).toNat)
 case atStart=>exact ⟨0,by omega,rfl,zo _,zH oM⟩
 case round=>
  obtain ⟨k,hk,rfl,hxr,hq⟩:=hrel
  by_cases hlt:k < xs.length
  rotate_left
  ·go_wp2_with fail
   go_ret
   exact ⟨aD (by rw [t6 (fun i hi=>hq.out i oM)]),hxr⟩
  obtain ⟨lb,off,rfl,hc⟩:=HL.out.get oM
  have HC:=zH hc
  obtain ⟨e1,e2⟩:=aQ hc hlt
  have E1:=zH e1
  have E2:=zH e2
  have c1:∀w',Ext W w'→w'.cell? ⟨lb,off+k*2,none⟩=some (.int .i64 (xs.getD k (0,0)).1):=fun w' h=>h.cell E1.out
  have c2:∀w',Ext W w'→w'.cell? ⟨lb,off+k*2+1,none⟩=some (.int .i64 (xs.getD k (0,0)).2):=fun w' h=>h.cell E2.out
  have HN1:=zH (fun h=>t7 (xs:=xs) (i:=k) hlt h)
  have HN2:=zH (fun j h1 h=>t8 (xs:=xs) (i:=k) (k:=j) hlt h1 h)
  have HP:=zH (fun (h1:mayB (xs.getD k (0,0)).1 (xs.getD k (0,0)).2=true) (h2:∀j,j < k→cQ (xs.getD k (0,0)).1 (xs.getD k (0,0)).2 (xs.getD j (0,0)).1 (xs.getD j (0,0)).2=false)=>
   (fun i (hi:i < k+1)=>by
    rcases Nat.lt_or_ge i k with h | h
    ·exact hq.out i h
    ·obtain rfl:i=k:=by omega
     exact ⟨h1,h2⟩:∀i,i < k+1→mayB (xs.getD i (0,0)).1 (xs.getD i (0,0)).2=true∧
      ∀k,k < i→cQ (xs.getD i (0,0)).1 (xs.getD i (0,0)).2 (xs.getD k (0,0)).1 (xs.getD k (0,0)).2=false))
  clear e1 e2 hc HL hq
  generalize hxa:(xs.getD k (0,0)).1=a at*
  generalize hxs:(xs.getD k (0,0)).2=s at*
  clear hxa hxs
  cases hm:mayB a s
  ·go_wp2_with (go_at_call 100;refine (cZ _ _ _).mono ?_;rintro e w1 ⟨rfl,hx0⟩;have hx:=zt (a:=W) aS hx0;clear hx0)
   go_ret
   exact ⟨aD (by rw [HN1.out hm]),by assumption⟩
  ·go_wp2_with (go_at_call 100;refine (cZ _ _ _).mono ?_;rintro e w1 ⟨rfl,hx0⟩;have hx:=zt (a:=W) aS hx0;clear hx0)
   go_loopw [4] (fun i wr=>∃j:Nat,j≤k∧i= .int .i64 j∧Ext W wr∧Hid (∀i,i < j→cQ a s (xs.getD i (0,0)).1 (xs.getD i (0,0)).2=false)) (fun i _=>k - (intOf i).toNat)
   case atStart=>exact ⟨0,by omega,rfl,by assumption,zH oM⟩
   case round=>
    obtain ⟨j,hj,rfl,hxj,hqj⟩:=hrel
    by_cases hjk:j < k
    rotate_left
    ·obtain rfl:j=k:=by omega
     go_wp2_with fail
     go_roundw
     case rel=>exact ⟨j+1,by omega,by go_num,hxj,zH (HP.out hm hqj.out)⟩
     case measure=>simp [intOf];omega
    obtain ⟨e1,e2⟩:=aQ HC.out (show j < xs.length by omega)
    have E3:=zH e1
    have E4:=zH e2
    have c3:∀w',Ext W w'→w'.cell? ⟨lb,off+j*2,none⟩=some (.int .i64 (xs.getD j (0,0)).1):=fun w' h=>h.cell E3.out
    have c4:∀w',Ext W w'→w'.cell? ⟨lb,off+j*2+1,none⟩=some (.int .i64 (xs.getD j (0,0)).2):=fun w' h=>h.cell E4.out
    have HM2:=zH (fun h=>HN2.out j hjk h)
    have HP2:=zH (fun (h2:cQ a s (xs.getD j (0,0)).1 (xs.getD j (0,0)).2=false)=>
     (fun i (hi:i < j+1)=>by
      rcases Nat.lt_or_ge i j with h | h
      ·exact hqj.out i h
      ·obtain rfl:i=j:=by omega
       exact h2:∀i,i < j+1→cQ a s (xs.getD i (0,0)).1 (xs.getD i (0,0)).2=false))
    clear e1 e2 hqj
    generalize (xs.getD j (0,0)).1=a2 at*
    generalize (xs.getD j (0,0)).2=s2 at*
    have ib1:(j:Int) < (xs.length:Int):=by omega
    have ib2:(k:Int) < (xs.length:Int):=by omega
    have ib3:(0:Int)≤(j:Int):=by omega
    have ib4:(0:Int)≤(k:Int):=by omega
    cases hmm:cQ a s a2 s2
    ·go_wp2_with fail
     go_region_held3 (fun w1=>Ext W w1) (first | (with_reducible assumption) | (exact zx aS) | (with_reducible exact zx (zz aS _)) | (with_reducible exact zz aS _) | (exact zt aS aS)) (first
      | (go_at_call 101;refine (il _ _ _ _ _).mono ?_;rintro e w1 ⟨rfl,hx⟩))
     go_wp2_with fail
     go_roundw
     case rel=>exact ⟨j+1,by omega,by go_num,by assumption,zH (HP2.out hmm)⟩
     case measure=>simp [intOf];omega
    ·go_wp2_with fail
     go_region_held3 (fun w1=>Ext W w1) (first | (with_reducible assumption) | (exact zx aS) | (with_reducible exact zx (zz aS _)) | (with_reducible exact zz aS _) | (exact zt aS aS)) (first
      | (go_at_call 101;refine (il _ _ _ _ _).mono ?_;rintro e w1 ⟨rfl,hx⟩))
     go_wp2_with fail
     go_ret
     exact ⟨aD (by rw [HM2.out hmm]),by assumption⟩
def ac (xs:List (Int×Int)) (p:Int):Bool:=xs.any fun x=>hasB x.1 x.2 p
theorem pI {xs:List (Int×Int)} {p:Int} {k:Nat} (hk:k < xs.length) (h:hasB (xs.getD k (0,0)).1 (xs.getD k (0,0)).2 p=true):ac xs p=true:=by
 unfold ac
 rw [List.any_eq_true]
 exact ⟨xs.getD k (0,0),by simp [hk],h⟩
theorem rH {xs:List (Int×Int)} {p:Int} (h:∀k,k < xs.length→hasB (xs.getD k (0,0)).1 (xs.getD k (0,0)).2 p=false):ac xs p=false:=by
 unfold ac
 rw [List.any_eq_false]
 intro x hx
 obtain ⟨k,hk,rfl⟩:=List.getElem_of_mem hx
 have:=h k hk
 simp only [List.getD_eq_getElem?_getD,List.getElem?_eq_getElem hk,Option.getD_some]at this
 simp [this]
theorem kK (A:Option Addr) (cap:Nat) (xs:List (Int×Int)) (p:Int) (W:World) (hlen:xs.length≤9223372036854775807) (hl:SpansAt W A xs):
  Calls Tryz.prog 211 #[.slice A xs.length cap,.int .i64 p] W fun e w'=>e= .returned (.bool (ac xs p))∧Ext W w':=by
 have HL:=zH hl
 clear hl
 go_enter Tryz.func211,Tryz.ntmps211
 go_wp2_with fail
 go_loopw [5] (fun i wr=>∃k:Nat,k≤xs.length∧i= .int .i64 k∧Ext W wr∧Hid (∀i,i < k→hasB (xs.getD i (0,0)).1 (xs.getD i (0,0)).2 p=false)) (fun i _=>xs.length - (intOf i).toNat)
 case atStart=>exact ⟨0,by omega,rfl,zo _,zH oM⟩
 case round=>
  obtain ⟨k,hk,rfl,hxr,hq⟩:=hrel
  by_cases hlt:k < xs.length
  rotate_left
  ·go_wp2_with fail
   go_ret
   exact ⟨aD (by rw [rH (fun i hi=>hq.out i oM)]),hxr⟩
  obtain ⟨lb,off,rfl,hc⟩:=HL.out.get oM
  obtain ⟨e1,e2⟩:=aQ hc hlt
  have E1:=zH e1
  have E2:=zH e2
  have c1:∀w',Ext W w'→w'.cell? ⟨lb,off+k*2,none⟩=some (.int .i64 (xs.getD k (0,0)).1):=fun w' h=>h.cell E1.out
  have c2:∀w',Ext W w'→w'.cell? ⟨lb,off+k*2+1,none⟩=some (.int .i64 (xs.getD k (0,0)).2):=fun w' h=>h.cell E2.out
  have HY:=zH (fun h=>pI (xs:=xs) (p:=p) (k:=k) hlt h)
  have HP:=zH (fun (h2:hasB (xs.getD k (0,0)).1 (xs.getD k (0,0)).2 p=false)=>
   (fun i (hi:i < k+1)=>by
    rcases Nat.lt_or_ge i k with h | h
    ·exact hq.out i h
    ·obtain rfl:i=k:=by omega
     exact h2:∀i,i < k+1→hasB (xs.getD i (0,0)).1 (xs.getD i (0,0)).2 p=false))
  clear e1 e2 hc HL hq
  generalize (xs.getD k (0,0)).1=a at*
  generalize (xs.getD k (0,0)).2=s at*
  cases hm:hasB a s p
  ·go_wp2_with (go_at_call 140;refine (gH _ _ _ _).mono ?_;rintro e w1 ⟨rfl,hx0⟩;have hx:=zt (a:=W) aS hx0;clear hx0)
   go_roundw
   case rel=>exact ⟨k+1,by omega,by go_num,by assumption,zH (HP.out hm)⟩
   case measure=>simp [intOf];omega
  ·go_wp2_with (go_at_call 140;refine (gH _ _ _ _).mono ?_;rintro e w1 ⟨rfl,hx0⟩;have hx:=zt (a:=W) aS hx0;clear hx0)
   go_ret
   exact ⟨aD (by rw [HY.out hm]),by assumption⟩
theorem ma {a s c d:Int} (h1:mayB a s=true) (h2:mayB c d=true):cQ a s c d=(decide (a < c+d) && decide (c < a+s)):=by
 have:=am h1
 have:=am h2
 unfold cQ hasB
 rw [h1,h2,Bool.eq_iff_iff]
 simp
 omega
def aq (a s c d:Int):Bool:=mayB a s && mayB c d && decide (c≤a∧a+s≤c+d)
theorem eM (a s:Int) (b:Bool) (h:mayB a s=b) (w:World):Calls Tryz.prog 90 #[.agg #[.int .i64 (a),.int .i64 (s)]] w fun e w'=>e= .returned (.bool b)∧Ext w w':=by
 rw [←h];exact sX a s w
theorem f9 (a s:Int) (b:Bool) (h:mayB a s=b) (w:World):Calls Tryz.prog 100 #[.agg #[.int .i64 (a),.int .i64 (s)]] w fun e w'=>e= .returned (.bool b)∧Ext w w':=by
 rw [←h];exact cZ a s w
theorem fa (a s p:Int) (b:Bool) (h:hasB a s p=b) (w:World):Calls Tryz.prog 140 #[.agg #[.int .i64 (a),.int .i64 (s)],.int .i64 p] w fun e w'=>e= .returned (.bool b)∧Ext w w':=by
 rw [←h];exact gH a s p w
theorem dS (a s:Int) (h:mayB a s=true) (w:World):Calls Tryz.prog 198 #[.agg #[.int .i64 (a),.int .i64 (s)]] w fun e w'=>e= .returned (.int .i64 (a+s))∧Ext w w':=by
 have:=am h
 have h2:=xX a s w
 rw [IntWalk.wrap64_in (a+s) ⟨by omega,by omega⟩]at h2
 exact h2
theorem iW {a s c d:Int} (h1:mayB a s=false):aq a s c d=false:=by unfold aq;simp [h1]
theorem kL {a s c d:Int} (h1:mayB c d=false):aq a s c d=false:=by unfold aq;simp [h1]
theorem rI {a s c d:Int} (h1:mayB a s=true) (h2:mayB c d=true):aq a s c d=(decide (c≤a) && decide (a+s≤c+d)):=by
 unfold aq
 rw [h1,h2,Bool.eq_iff_iff]
 simp
theorem rJ {a s c d:Int} (h1:mayB a s=true) (h2:mayB c d=true):aq a s c d=(hasB c d a && hasB c d (a+s - 1)):=by
 have:=am h1
 have:=am h2
 unfold aq hasB
 rw [h1,h2,Bool.eq_iff_iff]
 simp
 omega
theorem rK (a s c d:Int) (w:World):
  Calls Tryz.prog 205 #[.agg #[.int .i64 (a),.int .i64 (s)],.agg #[.int .i64 (c),.int .i64 (d)]] w fun e w'=>e= .returned (.bool (aq a s c d))∧Ext w w':=by
 go_enter Tryz.func205,Tryz.ntmps205
 go_wp2_with fail
 have hW:Ext w ((w.alloc (.cells #[.int .i64 a,.int .i64 s] 63)).alloc (.cells #[.int .i64 c,.int .i64 d] 63)):=((zo w).alloc _).alloc _
 have k0:=bD w #[.int .i64 a,.int .i64 s] 63 0 (.int .i64 a) rfl
 have k1:=bD w #[.int .i64 a,.int .i64 s] 63 1 (.int .i64 s) rfl
 have k2:=bD (w.alloc (.cells #[.int .i64 a,.int .i64 s] 63)) #[.int .i64 c,.int .i64 d] 63 0 (.int .i64 c) rfl
 have k3:=bD (w.alloc (.cells #[.int .i64 a,.int .i64 s] 63)) #[.int .i64 c,.int .i64 d] 63 1 (.int .i64 d) rfl
 replace k0:∀w',Ext ((w.alloc (.cells #[.int .i64 a,.int .i64 s] 63)).alloc (.cells #[.int .i64 c,.int .i64 d] 63)) w'→_:=fun w' h=>k0 w' (((zo _).alloc _).trans h)
 replace k1:∀w',Ext ((w.alloc (.cells #[.int .i64 a,.int .i64 s] 63)).alloc (.cells #[.int .i64 c,.int .i64 d] 63)) w'→_:=fun w' h=>k1 w' (((zo _).alloc _).trans h)
 simp only [World.size_alloc]at k2 k3
 generalize (w.alloc (.cells #[.int .i64 a,.int .i64 s] 63)).alloc (.cells #[.int .i64 c,.int .i64 d] 63)=W at*
 have hs0:Ext W W:=zo W
 have l0:=fun u:ExtOf W=>k0 u.1 u.2
 have l1:=fun u:ExtOf W=>k1 u.1 u.2
 have l2:=fun u:ExtOf W=>k2 u.1 u.2
 have l3:=fun u:ExtOf W=>k3 u.1 u.2
 clear k0 k1 k2 k3
 cases h1:mayB a s
 ·have H:=zH (iW (c:=c) (d:=d) h1)
  (refine aC (W:=W) kR kR aS ?_;(repeat (go_big_quiet_step (first | (go_at_call 90;with_reducible exact zq (eM a s _ h1 _)))));refine wpQuiet_nil ?_;intro w1 hx)
  go_wp2_with fail
  go_ret
  exact ⟨aD (by rw [H.out]),hW.trans (by assumption)⟩
 cases h2:mayB c d
 ·have H:=zH (kL (a:=a) (s:=s) h2)
  (refine aC (W:=W) kR kR aS ?_;(repeat (go_big_quiet_step (first | (go_at_call 90;with_reducible exact zq (eM a s _ h1 _)) | (go_at_call 90;with_reducible exact zq (eM c d _ h2 _)))));refine wpQuiet_nil ?_;intro w1 hx)
  go_wp2_with fail
  go_ret
  exact ⟨aD (by rw [H.out]),hW.trans (by assumption)⟩
 have HE:=zH (rI h1 h2)
 obtain ⟨q1,q2,q3,q4⟩:=am h1
 obtain ⟨q5,q6,q7,q8⟩:=am h2
 by_cases t1:c≤a
 rotate_left
 ·have t1':decide (c≤a)=false:=by simpa using t1
  have H:Hid (aq a s c d=false):=zH (by rw [HE.out,t1'];rfl)
  (refine aC (W:=W) kR kR aS ?_;(repeat (go_big_quiet_step (first | (go_at_call 90;with_reducible exact zq (eM a s _ h1 _)) | (go_at_call 90;with_reducible exact zq (eM c d _ h2 _)))));refine wpQuiet_nil ?_;intro w1 hx)
  go_wp2_with fail
  go_ret
  exact ⟨aD (by rw [H.out]),hW.trans (by assumption)⟩
 have t1':decide (c≤a)=true:=by simpa using t1
 by_cases t2:a+s≤c+d
 rotate_left
 ·have t2':decide (a+s≤c+d)=false:=by simpa using t2
  have H:Hid (aq a s c d=false):=zH (by rw [HE.out,t1',t2'];rfl)
  (refine aC (W:=W) kR kR aS ?_;(repeat (go_big_quiet_step (first | (go_at_call 90;with_reducible exact zq (eM a s _ h1 _)) | (go_at_call 90;with_reducible exact zq (eM c d _ h2 _)) | (go_at_call 198;with_reducible exact zq (dS c d h2 _)) | (go_at_call 198;with_reducible exact zq (dS a s h1 _)))));refine wpQuiet_nil ?_;intro w1 hx)
  go_wp2_with fail
  go_ret
  exact ⟨aD (by rw [H.out]),hW.trans (by assumption)⟩
 ·have t2':decide (a+s≤c+d)=true:=by simpa using t2
  have H:Hid (aq a s c d=true):=zH (by rw [HE.out,t1',t2'];rfl)
  (refine aC (W:=W) kR kR aS ?_;(repeat (go_big_quiet_step (first | (go_at_call 90;with_reducible exact zq (eM a s _ h1 _)) | (go_at_call 90;with_reducible exact zq (eM c d _ h2 _)) | (go_at_call 198;with_reducible exact zq (dS c d h2 _)) | (go_at_call 198;with_reducible exact zq (dS a s h1 _)))));refine wpQuiet_nil ?_;intro w1 hx)
  go_wp2_with fail
  go_ret
  exact ⟨aD (by rw [H.out]),hW.trans (by assumption)⟩
theorem mR (a s c d:Int) (w:World):
  Calls Tryz.prog 178 #[.agg #[.int .i64 (a),.int .i64 (s)],.agg #[.int .i64 (c),.int .i64 (d)]] w fun e w'=>e= .returned (.bool (aq a s c d))∧Ext w w':=by
 go_enter Tryz.func178,Tryz.ntmps178
 go_wp2_with fail
 have hW:Ext w ((w.alloc (.cells #[.int .i64 a,.int .i64 s] 63)).alloc (.cells #[.int .i64 c,.int .i64 d] 63)):=((zo w).alloc _).alloc _
 have k0:=bD w #[.int .i64 a,.int .i64 s] 63 0 (.int .i64 a) rfl
 have k1:=bD w #[.int .i64 a,.int .i64 s] 63 1 (.int .i64 s) rfl
 have k2:=bD (w.alloc (.cells #[.int .i64 a,.int .i64 s] 63)) #[.int .i64 c,.int .i64 d] 63 0 (.int .i64 c) rfl
 have k3:=bD (w.alloc (.cells #[.int .i64 a,.int .i64 s] 63)) #[.int .i64 c,.int .i64 d] 63 1 (.int .i64 d) rfl
 replace k0:∀w',Ext ((w.alloc (.cells #[.int .i64 a,.int .i64 s] 63)).alloc (.cells #[.int .i64 c,.int .i64 d] 63)) w'→_:=fun w' h=>k0 w' (((zo _).alloc _).trans h)
 replace k1:∀w',Ext ((w.alloc (.cells #[.int .i64 a,.int .i64 s] 63)).alloc (.cells #[.int .i64 c,.int .i64 d] 63)) w'→_:=fun w' h=>k1 w' (((zo _).alloc _).trans h)
 simp only [World.size_alloc]at k2 k3
 generalize (w.alloc (.cells #[.int .i64 a,.int .i64 s] 63)).alloc (.cells #[.int .i64 c,.int .i64 d] 63)=W at*
 have hs0:Ext W W:=zo W
 have HE:=zH (fun (h1:mayB a s=true) (h2:mayB c d=true)=>rJ h1 h2)
 have HS:=zH (fun (h1:mayB a s=true)=>(by have:=am h1;exact ⟨IntWalk.wrap64_in _ ⟨by omega,by omega⟩,IntWalk.wrap64_in _ ⟨by omega,by omega⟩⟩:wrap64 (a+s)=a+s∧wrap64 (a+s - 1)=a+s - 1))
 have HN1:=zH (@iW a s c d)
 have HN2:=zH (@kL a s c d)
 cases h1:mayB a s
 ·go_wp2_with (first | (go_at_call 100;refine (f9 a s _ h1 _).mono ?_;rintro e w1 ⟨rfl,hx0⟩;have hx:=zt (a:=W) aS hx0;clear hx0))
  go_ret
  exact ⟨aD (by rw [HN1.out h1]),hW.trans (by assumption)⟩
 cases h2:mayB c d
 ·go_wp2_with fail
  refine (f9 a s _ h1 _).mono ?_
  rintro e w1 ⟨rfl,hx⟩
  go_wp2_with fail
  refine (f9 c d _ h2 _).mono ?_
  rintro e w2 ⟨rfl,hx2⟩
  have hx':=hx.trans hx2
  clear hx hx2
  go_wp2_with fail
  go_ret
  exact ⟨aD (by rw [HN2.out h2]),hW.trans (by assumption)⟩
 obtain ⟨s1,s2⟩:=HS.out h1
 obtain ⟨q1,q2,q3,q4⟩:=am h1
 have step:∀b1 b2,hasB c d a=b1→hasB c d (a+s - 1)=b2→aq a s c d=(b1 && b2):=fun b1 b2 e1 e2=>by rw [HE.out h1 h2,e1,e2]
 have HE:=zH step
 clear step
 go_wp2_with fail
 refine (f9 a s _ h1 _).mono ?_
 rintro e w1 ⟨rfl,hx⟩
 go_wp2_with fail
 refine (f9 c d _ h2 _).mono ?_
 rintro e w2 ⟨rfl,hx2⟩
 have hx':=hx.trans hx2
 clear hx hx2 h1 h2
 go_wp2_with fail
 generalize hb1:hasB c d a=b1
 generalize hb2:hasB c d (a+s - 1)=b2
 have H1:=zH hb1
 have H2:=zH hb2
 clear hb1 hb2
 refine (fa c d a b1 H1.out _).mono ?_
 rintro e w2 ⟨rfl,hx2⟩
 have hx:=hx'.trans hx2
 clear hx' hx2
 cases b1
 ·go_wp2_with fail
  go_ret
  exact ⟨aD (by rw [HE.out _ _ H1.out H2.out];rfl),hW.trans (by assumption)⟩
 ·go_wp2_with fail
  refine (fa c d (a+s - 1) b2 H2.out _).mono ?_
  rintro e w2 ⟨rfl,hx2⟩
  have hx':=hx.trans hx2
  clear hx hx2
  go_wp2_with fail
  go_ret
  exact ⟨aD (by rw [HE.out _ _ H1.out H2.out];rfl),hW.trans (by assumption)⟩
def cfgB (s l t m:Int):Bool:=decide (2≤s∧s≤32768∧1≤m∧m≤s∧0≤l∧l≤32768∧1≤t∧t≤1024)
def cc (s l t m:Int):Int:=if cfgB s l t m then 2*s+l else 0
def bG (s l t m:Int) (b:Bool):Int:=if cfgB s l t m then (if b then s else 0)else 0
def bI (s l t m:Int):Int:=if cfgB s l t m then s else 0
def bE (s l t m:Int):Int:=if cfgB s l t m then (if l=0 then 0 else 2*s)else 0
def az (s l t m:Int):Int:=if cfgB s l t m then l else 0
def dq (s l t m at_:Int):Bool:=cfgB s l t m && decide (1≤at_∧at_≤m)
theorem gI {s l t m:Int} (h:cfgB s l t m=true):2≤s∧s≤32768∧1≤m∧m≤s∧0≤l∧l≤32768∧1≤t∧t≤1024:=by
 simpa [cfgB]using h
theorem cq (s l t m:Int) (w:World):
  Calls Tryz.prog 85 #[.agg #[.int .i64 (s),.int .i64 (l),.int .i64 (t),.int .i64 (m)]] w fun e w'=>e= .returned (.bool (cfgB s l t m))∧Ext w w':=by
 go_enter Tryz.func85,Tryz.ntmps85
 go_wp2
 all_goals go_ret
 all_goals exact ⟨aD (by unfold cfgB;simp [*];try omega),zF⟩
theorem b9 (s l t m:Int) (w:World):
  Calls Tryz.prog 46 #[.agg #[.int .i64 (s),.int .i64 (l),.int .i64 (t),.int .i64 (m)]] w fun e w'=>e= .returned (.bool (cfgB s l t m))∧Ext w w':=by
 go_enter Tryz.func46,Tryz.ntmps46
 go_wp2
 all_goals go_ret
 all_goals exact ⟨aD (by unfold cfgB;rw [Bool.eq_iff_iff];simp;omega),zF⟩
theorem ta (s l t m:Int) (w:World):
  Calls Tryz.prog 88 #[.agg #[.int .i64 (s),.int .i64 (l),.int .i64 (t),.int .i64 (m)]] w fun e w'=>e= .returned (.int .i64 (cc s l t m))∧Ext w w':=by
 by_cases hb:cfgB s l t m=true
 ·obtain ⟨h1,h2,h3,h4,h5,h6,h7,h8⟩:=gI hb
  go_enter Tryz.func88,Tryz.ntmps88
  go_wp2_with (go_at_call 85;refine (cq _ _ _ _ _).mono ?_;rintro e w1 ⟨rfl,hx⟩;obtain ⟨hcc,hff,hzz⟩:=cu hx;(try simp only [World.size_alloc]at hzz);(try (have hz0:=Nat.lt_of_succ_le hzz));(try (have hz1:=Nat.lt_of_succ_lt hz0));(try (have hz2:=Nat.lt_of_succ_lt hz1));(try (have hz3:=Nat.lt_of_succ_lt hz2)))
  go_ret
  exact ⟨ak (by simp [cc,hb]),zF⟩
 ·have hb':cfgB s l t m=false:=by simpa using hb
  go_enter Tryz.func88,Tryz.ntmps88
  go_wp2_with (go_at_call 85;refine (cq _ _ _ _ _).mono ?_;rintro e w1 ⟨rfl,hx⟩;obtain ⟨hcc,hff,hzz⟩:=cu hx;(try simp only [World.size_alloc]at hzz);(try (have hz0:=Nat.lt_of_succ_le hzz));(try (have hz1:=Nat.lt_of_succ_lt hz0));(try (have hz2:=Nat.lt_of_succ_lt hz1));(try (have hz3:=Nat.lt_of_succ_lt hz2)))
  go_ret
  exact ⟨ak (by simp [cc,hb']),zF⟩
theorem nr (s l t m:Int) (w:World):
  Calls Tryz.prog 95 #[.agg #[.int .i64 (s),.int .i64 (l),.int .i64 (t),.int .i64 (m)]] w fun e w'=>e= .returned (.int .i64 (cc s l t m))∧Ext w w':=by
 by_cases hb:cfgB s l t m=true
 ·obtain ⟨h1,h2,h3,h4,h5,h6,h7,h8⟩:=gI hb
  go_enter Tryz.func95,Tryz.ntmps95
  go_wp2_with (go_at_call 46;refine (b9 _ _ _ _ _).mono ?_;rintro e w1 ⟨rfl,hx⟩;obtain ⟨hcc,hff,hzz⟩:=cu hx;(try simp only [World.size_alloc]at hzz);(try (have hz0:=Nat.lt_of_succ_le hzz));(try (have hz1:=Nat.lt_of_succ_lt hz0));(try (have hz2:=Nat.lt_of_succ_lt hz1));(try (have hz3:=Nat.lt_of_succ_lt hz2)))
  go_ret
  exact ⟨ak (by simp [cc,hb];omega),zF⟩
 ·have hb':cfgB s l t m=false:=by simpa using hb
  go_enter Tryz.func95,Tryz.ntmps95
  go_wp2_with (go_at_call 46;refine (b9 _ _ _ _ _).mono ?_;rintro e w1 ⟨rfl,hx⟩;obtain ⟨hcc,hff,hzz⟩:=cu hx;(try simp only [World.size_alloc]at hzz);(try (have hz0:=Nat.lt_of_succ_le hzz));(try (have hz1:=Nat.lt_of_succ_lt hz0));(try (have hz2:=Nat.lt_of_succ_lt hz1));(try (have hz3:=Nat.lt_of_succ_lt hz2)))
  go_ret
  exact ⟨ak (by simp [cc,hb']),zF⟩
theorem td {s l t m:Int} {b:Bool} (hb:cfgB s l t m=true):(.agg #[.int .i64 (bG s l t m b),.int .i64 (bI s l t m),.int .i64 (bG s l t m (!b)),.int .i64 (bI s l t m),.int .i64 (bE s l t m),.int .i64 (az s l t m)]:Value)=Value.agg #[.int .i64 (if b then s else 0),.int .i64 s,.int .i64 (if b then 0 else s),.int .i64 s,.int .i64 (if l=0 then 0 else 2*s),.int .i64 l]:=by
 cases b <;>simp [bG,bI,bE,az,hb]
theorem vE {s l t m:Int} {b:Bool} (hb:cfgB s l t m=false):(.agg #[.int .i64 (bG s l t m b),.int .i64 (bI s l t m),.int .i64 (bG s l t m (!b)),.int .i64 (bI s l t m),.int .i64 (bE s l t m),.int .i64 (az s l t m)]:Value)=Value.agg #[.int .i64 0,.int .i64 0,.int .i64 0,.int .i64 0,.int .i64 0,.int .i64 0]:=by
 cases b <;>simp [bG,bI,bE,az,hb]
theorem me (s l t m:Int) (b:Bool) (w:World):
  Calls Tryz.prog 132 #[.agg #[.int .i64 (s),.int .i64 (l),.int .i64 (t),.int .i64 (m)],.bool b] w fun e w'=>e= .returned (.agg #[.int .i64 (bG s l t m b),.int .i64 (bI s l t m),.int .i64 (bG s l t m (!b)),.int .i64 (bI s l t m),.int .i64 (bE s l t m),.int .i64 (az s l t m)])∧Ext w w':=by
 by_cases hb:cfgB s l t m=true
 ·rw [td hb]
  obtain ⟨h1,h2,h3,h4,h5,h6,h7,h8⟩:=gI hb
  by_cases h9:l=0
  ·subst h9
   cases b
   ·go_enter Tryz.func132,Tryz.ntmps132
    go_wp2_with (go_at_call 85;refine (cq _ _ _ _ _).mono ?_;rintro e w1 ⟨rfl,hx⟩;obtain ⟨hcc,hff,hzz⟩:=cu hx;(try simp only [World.size_alloc]at hzz);(try (have hz0:=Nat.lt_of_succ_le hzz));(try (have hz1:=Nat.lt_of_succ_lt hz0));(try (have hz2:=Nat.lt_of_succ_lt hz1));(try (have hz3:=Nat.lt_of_succ_lt hz2)))
    ((try simp only [Exit.inBlock,Exit.then]);refine bodyPost_ret (v:= .agg #[.int .i64 0,.int .i64 s,.int .i64 s,.int .i64 s,.int .i64 0,.int .i64 0]) (by simp only [results,Tryz.results132];go_simp) rfl ?_)
    exact ⟨rfl,zF⟩
   ·go_enter Tryz.func132,Tryz.ntmps132
    go_wp2_with (go_at_call 85;refine (cq _ _ _ _ _).mono ?_;rintro e w1 ⟨rfl,hx⟩;obtain ⟨hcc,hff,hzz⟩:=cu hx;(try simp only [World.size_alloc]at hzz);(try (have hz0:=Nat.lt_of_succ_le hzz));(try (have hz1:=Nat.lt_of_succ_lt hz0));(try (have hz2:=Nat.lt_of_succ_lt hz1));(try (have hz3:=Nat.lt_of_succ_lt hz2)))
    ((try simp only [Exit.inBlock,Exit.then]);refine bodyPost_ret (v:= .agg #[.int .i64 s,.int .i64 s,.int .i64 0,.int .i64 s,.int .i64 0,.int .i64 0]) (by simp only [results,Tryz.results132];go_simp) rfl ?_)
    exact ⟨rfl,zF⟩
  ·have hl:((l:Int)==0)=false:=by simpa using h9
   rw [if_neg h9]
   cases b
   ·go_enter Tryz.func132,Tryz.ntmps132
    go_wp2_with (go_at_call 85;refine (cq _ _ _ _ _).mono ?_;rintro e w1 ⟨rfl,hx⟩;obtain ⟨hcc,hff,hzz⟩:=cu hx;(try simp only [World.size_alloc]at hzz);(try (have hz0:=Nat.lt_of_succ_le hzz));(try (have hz1:=Nat.lt_of_succ_lt hz0));(try (have hz2:=Nat.lt_of_succ_lt hz1));(try (have hz3:=Nat.lt_of_succ_lt hz2)))
    ((try simp only [Exit.inBlock,Exit.then]);refine bodyPost_ret (v:= .agg #[.int .i64 0,.int .i64 s,.int .i64 s,.int .i64 s,.int .i64 (2*s),.int .i64 l]) (by simp only [results,Tryz.results132];go_simp) rfl ?_)
    exact ⟨rfl,zF⟩
   ·go_enter Tryz.func132,Tryz.ntmps132
    go_wp2_with (go_at_call 85;refine (cq _ _ _ _ _).mono ?_;rintro e w1 ⟨rfl,hx⟩;obtain ⟨hcc,hff,hzz⟩:=cu hx;(try simp only [World.size_alloc]at hzz);(try (have hz0:=Nat.lt_of_succ_le hzz));(try (have hz1:=Nat.lt_of_succ_lt hz0));(try (have hz2:=Nat.lt_of_succ_lt hz1));(try (have hz3:=Nat.lt_of_succ_lt hz2)))
    ((try simp only [Exit.inBlock,Exit.then]);refine bodyPost_ret (v:= .agg #[.int .i64 s,.int .i64 s,.int .i64 0,.int .i64 s,.int .i64 (2*s),.int .i64 l]) (by simp only [results,Tryz.results132];go_simp) rfl ?_)
    exact ⟨rfl,zF⟩
 ·have hb':cfgB s l t m=false:=by simpa using hb
  rw [vE hb']
  go_enter Tryz.func132,Tryz.ntmps132
  go_wp2_with (go_at_call 85;refine (cq _ _ _ _ _).mono ?_;rintro e w1 ⟨rfl,hx⟩;obtain ⟨hcc,hff,hzz⟩:=cu hx;(try simp only [World.size_alloc]at hzz);(try (have hz0:=Nat.lt_of_succ_le hzz));(try (have hz1:=Nat.lt_of_succ_lt hz0));(try (have hz2:=Nat.lt_of_succ_lt hz1));(try (have hz3:=Nat.lt_of_succ_lt hz2)))
  ((try simp only [Exit.inBlock,Exit.then]);refine bodyPost_ret (v:= .agg #[.int .i64 0,.int .i64 0,.int .i64 0,.int .i64 0,.int .i64 0,.int .i64 0]) (by simp only [results,Tryz.results132];go_simp) rfl ?_)
  exact ⟨rfl,zF⟩
theorem idx0 (v0 v1 v2 v3 v4 v5:Value) (w:World):(Instr.index 178 (.agg #[v0,v1,v2,v3,v4,v5]) (.int .i64 0)).run Tryz.prog w= .ok (.agg #[v0,v1]) w:=by kernel_rfl
theorem idx2 (v0 v1 v2 v3 v4 v5:Value) (w:World):(Instr.index 178 (.agg #[v0,v1,v2,v3,v4,v5]) (.int .i64 2)).run Tryz.prog w= .ok (.agg #[v4,v5]) w:=by kernel_rfl
theorem vF (s l t m:Int) (b:Bool) (w:World):
  Calls Tryz.prog 81 #[.agg #[.int .i64 (s),.int .i64 (l),.int .i64 (t),.int .i64 (m)],.bool b] w fun e w'=>e= .returned (.agg #[.int .i64 (bG s l t m b),.int .i64 (bI s l t m)])∧Ext w w':=by
 have i0:=idx0
 go_enter Tryz.func81,Tryz.ntmps81
 go_wp2_with (go_at_call 132;refine (me _ _ _ _ _ _).mono ?_;rintro e w1 ⟨rfl,hx⟩;obtain ⟨hcc,hff,hzz⟩:=cu hx;(try simp only [World.size_alloc]at hzz);(try (have hz0:=Nat.lt_of_succ_le hzz));(try (have hz1:=Nat.lt_of_succ_lt hz0));(try (have hz2:=Nat.lt_of_succ_lt hz1));(try (have hz3:=Nat.lt_of_succ_lt hz2)))
 ((try simp only [Exit.inBlock,Exit.then]);refine bodyPost_ret (v:= .agg #[.int .i64 (bG s l t m b),.int .i64 (bI s l t m)]) (by simp only [results,Tryz.results81];go_simp) rfl ?_)
 exact ⟨rfl,zF⟩
theorem te (s l t m:Int) (w:World):
  Calls Tryz.prog 89 #[.agg #[.int .i64 (s),.int .i64 (l),.int .i64 (t),.int .i64 (m)]] w fun e w'=>e= .returned (.agg #[.int .i64 (bE s l t m),.int .i64 (az s l t m)])∧Ext w w':=by
 have i0:=idx2
 go_enter Tryz.func89,Tryz.ntmps89
 go_wp2_with (go_at_call 132;refine (me _ _ _ _ _ _).mono ?_;rintro e w1 ⟨rfl,hx⟩;obtain ⟨hcc,hff,hzz⟩:=cu hx;(try simp only [World.size_alloc]at hzz);(try (have hz0:=Nat.lt_of_succ_le hzz));(try (have hz1:=Nat.lt_of_succ_lt hz0));(try (have hz2:=Nat.lt_of_succ_lt hz1));(try (have hz3:=Nat.lt_of_succ_lt hz2)))
 ((try simp only [Exit.inBlock,Exit.then]);refine bodyPost_ret (v:= .agg #[.int .i64 (bE s l t m),.int .i64 (az s l t m)]) (by simp only [results,Tryz.results89];go_simp) rfl ?_)
 exact ⟨rfl,zF⟩
theorem tf (s l t m at_:Int) (w:World):
  Calls Tryz.prog 133 #[.agg #[.int .i64 (s),.int .i64 (l),.int .i64 (t),.int .i64 (m)],.int .i64 at_] w fun e w'=>e= .returned (.bool (dq s l t m at_))∧Ext w w':=by
 by_cases hb:cfgB s l t m=true
 ·go_enter Tryz.func133,Tryz.ntmps133
  go_wp2_with (go_at_call 85;refine (cq _ _ _ _ _).mono ?_;rintro e w1 ⟨rfl,hx⟩;obtain ⟨hcc,hff,hzz⟩:=cu hx;(try simp only [World.size_alloc]at hzz);(try (have hz0:=Nat.lt_of_succ_le hzz));(try (have hz1:=Nat.lt_of_succ_lt hz0));(try (have hz2:=Nat.lt_of_succ_lt hz1));(try (have hz3:=Nat.lt_of_succ_lt hz2)))
  all_goals go_ret
  all_goals exact ⟨aD (by unfold dq;simp [*];try omega),zF⟩
 ·have hb':cfgB s l t m=false:=by simpa using hb
  go_enter Tryz.func133,Tryz.ntmps133
  go_wp2_with (go_at_call 85;refine (cq _ _ _ _ _).mono ?_;rintro e w1 ⟨rfl,hx⟩;obtain ⟨hcc,hff,hzz⟩:=cu hx;(try simp only [World.size_alloc]at hzz);(try (have hz0:=Nat.lt_of_succ_le hzz));(try (have hz1:=Nat.lt_of_succ_lt hz0));(try (have hz2:=Nat.lt_of_succ_lt hz1));(try (have hz3:=Nat.lt_of_succ_lt hz2)))
  go_ret
  exact ⟨aD (by unfold dq;simp [hb']),zF⟩
theorem pJ (s l t m n:Int) (hn:n=0∨n=1) (w:World):
  Calls Tryz.prog 99 #[.agg #[.int .i64 (s),.int .i64 (l),.int .i64 (t),.int .i64 (m)],.int .i64 n] w fun e w'=>e= .returned (.agg #[.int .i64 (bG s l t m (n==1)),.int .i64 (bI s l t m)])∧Ext w w':=by
 by_cases hb:cfgB s l t m=true
 ·obtain ⟨h1,h2,h3,h4,h5,h6,h7,h8⟩:=gI hb
  rcases hn with rfl | rfl
  all_goals go_enter Tryz.func99,Tryz.ntmps99
  all_goals go_wp2_with (go_at_call 46;refine (b9 _ _ _ _ _).mono ?_;rintro e w1 ⟨rfl,hx⟩;obtain ⟨hcc,hff,hzz⟩:=cu hx;(try simp only [World.size_alloc]at hzz);(try (have hz0:=Nat.lt_of_succ_le hzz));(try (have hz1:=Nat.lt_of_succ_lt hz0));(try (have hz2:=Nat.lt_of_succ_lt hz1));(try (have hz3:=Nat.lt_of_succ_lt hz2)))
  ·((try simp only [Exit.inBlock,Exit.then]);refine bodyPost_ret (v:= .agg #[.int .i64 (0),.int .i64 (s)]) (by simp only [results,Tryz.results99];go_simp) rfl ?_)
   exact ⟨by simp [bG,bI,hb],zF⟩
  ·((try simp only [Exit.inBlock,Exit.then]);refine bodyPost_ret (v:= .agg #[.int .i64 (s),.int .i64 (s)]) (by simp only [results,Tryz.results99];go_simp) rfl ?_)
   exact ⟨by simp [bG,bI,hb],zF⟩
 ·have hb':cfgB s l t m=false:=by simpa using hb
  go_enter Tryz.func99,Tryz.ntmps99
  go_wp2_with (go_at_call 46;refine (b9 _ _ _ _ _).mono ?_;rintro e w1 ⟨rfl,hx⟩;obtain ⟨hcc,hff,hzz⟩:=cu hx;(try simp only [World.size_alloc]at hzz);(try (have hz0:=Nat.lt_of_succ_le hzz));(try (have hz1:=Nat.lt_of_succ_lt hz0));(try (have hz2:=Nat.lt_of_succ_lt hz1));(try (have hz3:=Nat.lt_of_succ_lt hz2)))
  ((try simp only [Exit.inBlock,Exit.then]);refine bodyPost_ret (v:= .agg #[.int .i64 (0),.int .i64 (0)]) (by simp only [results,Tryz.results99];go_simp) rfl ?_)
  exact ⟨by simp [bG,bI,hb'],zF⟩
theorem pK (s l t m:Int) (b:Bool) (w:World):
  Calls Tryz.prog 48 #[.agg #[.int .i64 (s),.int .i64 (l),.int .i64 (t),.int .i64 (m)],.bool b] w fun e w'=>e= .returned (.agg #[.int .i64 (bG s l t m b),.int .i64 (bI s l t m)])∧Ext w w':=by
 cases b
 ·go_enter Tryz.func48,Tryz.ntmps48
  go_wp2_with (go_at_call 99;refine (pJ _ _ _ _ _ dM _).mono ?_;rintro e w1 ⟨rfl,hx⟩;obtain ⟨hcc,hff,hzz⟩:=cu hx;(try simp only [World.size_alloc]at hzz);(try (have hz0:=Nat.lt_of_succ_le hzz));(try (have hz1:=Nat.lt_of_succ_lt hz0));(try (have hz2:=Nat.lt_of_succ_lt hz1));(try (have hz3:=Nat.lt_of_succ_lt hz2)))
  ((try simp only [Exit.inBlock,Exit.then]);refine bodyPost_ret (v:= .agg #[.int .i64 (bG s l t m false),.int .i64 (bI s l t m)]) (by simp only [results,Tryz.results48];go_simp) rfl ?_)
  exact ⟨rfl,zF⟩
 ·go_enter Tryz.func48,Tryz.ntmps48
  go_wp2_with (go_at_call 99;refine (pJ _ _ _ _ _ dM _).mono ?_;rintro e w1 ⟨rfl,hx⟩;obtain ⟨hcc,hff,hzz⟩:=cu hx;(try simp only [World.size_alloc]at hzz);(try (have hz0:=Nat.lt_of_succ_le hzz));(try (have hz1:=Nat.lt_of_succ_lt hz0));(try (have hz2:=Nat.lt_of_succ_lt hz1));(try (have hz3:=Nat.lt_of_succ_lt hz2)))
  ((try simp only [Exit.inBlock,Exit.then]);refine bodyPost_ret (v:= .agg #[.int .i64 (bG s l t m true),.int .i64 (bI s l t m)]) (by simp only [results,Tryz.results48];go_simp) rfl ?_)
  exact ⟨rfl,zF⟩
theorem nt (s l t m:Int) (w:World):
  Calls Tryz.prog 49 #[.agg #[.int .i64 (s),.int .i64 (l),.int .i64 (t),.int .i64 (m)]] w fun e w'=>e= .returned (.agg #[.int .i64 (bE s l t m),.int .i64 (az s l t m)])∧Ext w w':=by
 by_cases hb:cfgB s l t m=true
 ·obtain ⟨h1,h2,h3,h4,h5,h6,h7,h8⟩:=gI hb
  by_cases h9:l=0
  ·subst h9
   go_enter Tryz.func49,Tryz.ntmps49
   go_wp2_with (go_at_call 46;refine (b9 _ _ _ _ _).mono ?_;rintro e w1 ⟨rfl,hx⟩;obtain ⟨hcc,hff,hzz⟩:=cu hx;(try simp only [World.size_alloc]at hzz);(try (have hz0:=Nat.lt_of_succ_le hzz));(try (have hz1:=Nat.lt_of_succ_lt hz0));(try (have hz2:=Nat.lt_of_succ_lt hz1));(try (have hz3:=Nat.lt_of_succ_lt hz2)))
   ((try simp only [Exit.inBlock,Exit.then]);refine bodyPost_ret (v:= .agg #[.int .i64 (0),.int .i64 (0)]) (by simp only [results,Tryz.results49];go_simp) rfl ?_)
   exact ⟨by simp [bE,az,hb],zF⟩
  ·have hl:((l:Int)==0)=false:=by simpa using h9
   go_enter Tryz.func49,Tryz.ntmps49
   go_wp2_with (go_at_call 46;refine (b9 _ _ _ _ _).mono ?_;rintro e w1 ⟨rfl,hx⟩;obtain ⟨hcc,hff,hzz⟩:=cu hx;(try simp only [World.size_alloc]at hzz);(try (have hz0:=Nat.lt_of_succ_le hzz));(try (have hz1:=Nat.lt_of_succ_lt hz0));(try (have hz2:=Nat.lt_of_succ_lt hz1));(try (have hz3:=Nat.lt_of_succ_lt hz2)))
   ((try simp only [Exit.inBlock,Exit.then]);refine bodyPost_ret (v:= .agg #[.int .i64 (s+s),.int .i64 (l)]) (by simp only [results,Tryz.results49];go_simp) rfl ?_)
   exact ⟨by simp [bE,az,hb,h9];omega,zF⟩
 ·have hb':cfgB s l t m=false:=by simpa using hb
  go_enter Tryz.func49,Tryz.ntmps49
  go_wp2_with (go_at_call 46;refine (b9 _ _ _ _ _).mono ?_;rintro e w1 ⟨rfl,hx⟩;obtain ⟨hcc,hff,hzz⟩:=cu hx;(try simp only [World.size_alloc]at hzz);(try (have hz0:=Nat.lt_of_succ_le hzz));(try (have hz1:=Nat.lt_of_succ_lt hz0));(try (have hz2:=Nat.lt_of_succ_lt hz1));(try (have hz3:=Nat.lt_of_succ_lt hz2)))
  ((try simp only [Exit.inBlock,Exit.then]);refine bodyPost_ret (v:= .agg #[.int .i64 (0),.int .i64 (0)]) (by simp only [results,Tryz.results49];go_simp) rfl ?_)
  exact ⟨by simp [bE,az,hb'],zF⟩
theorem nu (s l t m p:Int) (w:World):
  Calls Tryz.prog 51 #[.agg #[.int .i64 (s),.int .i64 (l),.int .i64 (t),.int .i64 (m)],.int .i64 p] w fun e w'=>e= .returned (.bool (dq s l t m p))∧Ext w w':=by
 by_cases hb:cfgB s l t m=true
 ·go_enter Tryz.func51,Tryz.ntmps51
  go_wp2_with (go_at_call 46;refine (b9 _ _ _ _ _).mono ?_;rintro e w1 ⟨rfl,hx⟩;obtain ⟨hcc,hff,hzz⟩:=cu hx;(try simp only [World.size_alloc]at hzz);(try (have hz0:=Nat.lt_of_succ_le hzz));(try (have hz1:=Nat.lt_of_succ_lt hz0));(try (have hz2:=Nat.lt_of_succ_lt hz1));(try (have hz3:=Nat.lt_of_succ_lt hz2)))
  all_goals go_ret
  all_goals exact ⟨aD (by unfold dq;simp [*];try omega),zF⟩
 ·have hb':cfgB s l t m=false:=by simpa using hb
  go_enter Tryz.func51,Tryz.ntmps51
  go_wp2_with (go_at_call 46;refine (b9 _ _ _ _ _).mono ?_;rintro e w1 ⟨rfl,hx⟩;obtain ⟨hcc,hff,hzz⟩:=cu hx;(try simp only [World.size_alloc]at hzz);(try (have hz0:=Nat.lt_of_succ_le hzz));(try (have hz1:=Nat.lt_of_succ_lt hz0));(try (have hz2:=Nat.lt_of_succ_lt hz1));(try (have hz3:=Nat.lt_of_succ_lt hz2)))
  go_ret
  exact ⟨aD (by unfold dq;simp [hb']),zF⟩
end Go.Proofs.YtphpppjfogpohaaGreat
