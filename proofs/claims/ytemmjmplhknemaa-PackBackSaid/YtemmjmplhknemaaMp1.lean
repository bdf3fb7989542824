/- Merged by program (merge.py) out of: Base, PkP, SpanA, Ref03A, SpanB, LayoutA, LayoutB. -/
import Derived.Test.YtemmjmplhknemaaRows
import Derived.WalkKit
import Derived.BigQuiet
import Derived.Lib.Hide
import Derived.Deep.RegionHeld3
import Derived.ProofKit
import Derived.OpenShut
import Derived.Lib.SmallJoins
import Derived.ChangeSame
import Derived.Carry
set_option linter.unusedSimpArgs false
set_option linter.unusedVariables false
set_option maxRecDepth 100000
set_option maxHeartbeats 16000000
namespace Go.Proofs.Ytemmjmplhknemaa
open Go.RowKit
def Ext (w w':World):Prop:=Below w.heap.size w w'
theorem Ext.refl (w:World):Ext w w:=Below.refl _ _
theorem Ext.trans {a b c:World} (h:Ext a b) (k:Ext b c):Ext a c:=
 Below.trans h (Below.mono k (Below.size h))
theorem Ext.drew {a w:World} (h:Ext a w):Ext a w.drew:=Below.drew h
theorem Ext.alloc {a w:World} (h:Ext a w) (o:Obj):Ext a (w.alloc o):=Below.alloc h (Below.size h) o
theorem Ext.cell {w w':World} (h:Ext w w') {p:Addr} {v:Value} (hc:w.cell? p=some v):w'.cell? p=some v:=by
 have hb:p.block < w.heap.size:=by
  unfold World.cell? at hc
  rcases Nat.lt_or_ge p.block w.heap.size with h | h
  ·exact h
  ·rw [Array.getElem?_eq_none h]at hc;cases hc
 rw [Below.cell h hb];exact hc
theorem Ext.size {w w':World} (h:Ext w w'):w.heap.size≤w'.heap.size:=Below.size h
theorem Ext.setCell {a w:World} (h:Ext a w) {p:Addr} (hp:a.heap.size≤p.block) (u:Value):Ext a (w.setCell p u):=Below.setCell h hp u
theorem Ext.below {w w':World} (h:Ext w w'):Below w.heap.size w w':=h
theorem boxed (w:World) (cs:Array Value) (t:TypeId) (i:Nat) (v:Value) (h:cs[i]?=some v) (w':World) (hw:Ext (w.alloc (.cells cs t)) w'):
  w'.cell? ⟨w.heap.size,i,none⟩=some v:=by
 refine Ext.cell hw ?_
 simpa using h
theorem ecell {w w1:World} (h:Ext w w1):(∀b o,b < w.heap.size→w1.cell? ⟨b,o,none⟩=w.cell? ⟨b,o,none⟩)∧(∀b o,b < w.heap.size→w1.frozen? ⟨b,o,none⟩=w.frozen? ⟨b,o,none⟩)∧w.heap.size≤w1.heap.size:=
 ⟨fun b o hb=>Below.cell (p:=⟨b,o,none⟩) h hb,fun b o hb=>Below.frozen (p:=⟨b,o,none⟩) h hb,Below.size h⟩
theorem ret_bool {a b:Bool} (h:a=b):Ending.returned (.bool a)= .returned (.bool b):=by rw [h]
theorem ret_int {k:IntKind} {a b:Int} (h:a=b):Ending.returned (.int k a)= .returned (.int k b):=by rw [h]
theorem i64_bd {a:Int} (h:(Lit.int .i64 a).wf=true): -9223372036854775808≤a∧a≤9223372036854775807:=by
 simpa [Lit.wf,IntKind.min,IntKind.max,IntKind.signed,IntKind.bits]using h
def Only (b:Nat) (w w':World):Prop:=w.grownBy w' (some b)
theorem Only.refl (b:Nat) (w:World):Only b w w:=World.grownBy.refl _ _
theorem Only.trans {b:Nat} {u v w:World} (h:Only b u v) (k:Only b v w):Only b u w:=
 ⟨k.os.trans h.os,k.tape.trans h.tape,k.output.trans h.output,Nat.le_trans h.size k.size,
  fun i hi hne=>(k.block i (Nat.lt_of_lt_of_le hi h.size) hne).trans (h.block i hi hne)⟩
theorem Only.of_ext {b:Nat} {w w':World} (h:Ext w w'):Only b w w':=⟨h.os,h.tape,h.output,Below.size h,fun k hk _=>Below.block h k hk⟩
theorem Only.setCell {b:Nat} {u w:World} (h:Only b u w) (i:Nat) (v:Value):Only b u (w.setCell ⟨b,i,none⟩ v):=
 ⟨h.os,h.tape,h.output,by simpa using h.size,fun k hk hne=>(heap_setCell_other w ⟨b,i,none⟩ k v (fun e=>hne (by rw [e]))).trans (h.block k hk hne)⟩
theorem Only.ext {b:Nat} {u w w':World} (h:Only b w w') (hu:Ext u w) (hb:u.heap.size≤b):Ext u w':=
 Below.grown hu h (Below.size hu) (fun k hk=>by injection hk with hk;omega)
theorem Ext.drewN {u w:World} (h:Ext u w) (n:Nat):Ext u (w.drewN n):=⟨h.os,h.tape,h.output,h.size,h.block⟩
theorem Ext.block {w w':World} (h:Ext w w') {k:Nat} (hk:k < w.heap.size):w'.heap[k]?=w.heap[k]?:=Below.block h k hk
def ExtOf (W:World):Type:= {w:World//Ext W w}
instance ExtOf.inhabited (W:World):Nonempty (ExtOf W):=⟨⟨W,Ext.refl W⟩⟩
theorem zE {W w : World} (h : Ext W w := by repeat (first | (with_reducible exact Ext.refl _) | (with_reducible exact ExtOf.ext _) | (with_reducible assumption) | (with_reducible refine Ext.drew ?_) | (with_reducible refine Ext.alloc ?_ _))) : Ext W w := h
theorem zF {W w : World} (h : Ext W w := by repeat (first | (with_reducible exact Ext.refl _) | (with_reducible assumption) | (with_reducible refine Ext.drew ?_) | (with_reducible refine Ext.alloc ?_ _) | ((with_reducible refine Ext.setCell ?_ ?_ _); rotate_left; (focus (simp; try omega))) | (with_reducible refine Ext.trans ?_ (by assumption)))) : Ext W w := h
theorem zG {W w : World} (h : Ext W w := by repeat (first | (with_reducible exact Ext.refl _) | (with_reducible assumption) | (with_reducible refine Ext.drew ?_) | (with_reducible refine Ext.alloc ?_ _))) : Ext W w := h
theorem zH {p : Prop} (h : p) : Hid p := Lib.hid h
theorem Calls.ext_of {P:Program} {f:FuncId} {args:Array Value} {W:World} {u:ExtOf W} {v:Value} (h:Calls P f args u.1 fun e w'=>e= .returned v∧Ext u.1 w'):
  Calls P f args u.1 fun e w''=>e= .returned v∧∃u':ExtOf W,w''=u'.1:=
 h.mono fun _ w' ⟨he,hx⟩=>⟨he,⟨w',u.2.trans hx⟩,rfl⟩
theorem wp_region_ext {P:Program} {W:World} {id:Nat} {Q:Exit→Act→World→Prop} {a:Act} {w:World} {l:List Oper} (hm:P.follows .mixedOrders=true) (hB:Region.lexB .any l.toArray=true) (hx:Ext W w)
  (h:wpQuiet P l.toArray (fun w'=>∃u:ExtOf W,w'=u.1) (fun a'=>∀w',Ext W w'→Q .normal a' w') l a):(Code.region id l.toArray true).wp P Q a w:=
 wp_region_quiet (C:=fun w'=>∃u:ExtOf W,w'=u.1) hm hB ⟨⟨_,Ext.drew hx⟩,rfl⟩ (by
  have:(fun a'=>∀w',(∃u:ExtOf W,w'=u.1)→Q .normal a' w')=(fun a'=>∀w',Ext W w'→Q .normal a' w'):=by
   funext a'
   exact propext ⟨fun h w' hw=>h w' ⟨⟨w',hw⟩,rfl⟩,fun h w' ⟨u,hu⟩=>hu ▸ h _ u.2⟩
  rw [this]
  simpa using h)
def RowAt {α:Type} (n:Nat) (f:α→List Value) (w:World) (A:Option Addr) (xs:List α):Prop:=
 ∃b off,(xs≠ []→A=some ⟨b,off,none⟩)∧∀i x,xs[i]?=some x→∀j v,(f x)[j]?=some v→w.cell? ⟨b,off+i*n+j,none⟩=some v
theorem RowAt.ext {α:Type} {n:Nat} {f:α→List Value} {w w':World} {A:Option Addr} {xs:List α} (h:RowAt n f w A xs) (he:Ext w w'):RowAt n f w' A xs:=by
 obtain ⟨b,off,hA,hc⟩:=h
 exact ⟨b,off,hA,fun i x hx j v hv=>he.cell (hc i x hx j v hv)⟩
theorem RowAt.get {α:Type} {n:Nat} {f:α→List Value} {w:World} {A:Option Addr} {xs:List α} (h:RowAt n f w A xs) (hne:0 < xs.length):
  ∃b off,A=some ⟨b,off,none⟩∧∀i x,xs[i]?=some x→∀j v,(f x)[j]?=some v→w.cell? ⟨b,off+i*n+j,none⟩=some v:=by
 obtain ⟨b,off,hA,hc⟩:=h
 exact ⟨b,off,hA (by intro e;subst e;simp at hne),hc⟩
def intC (z:Int):List Value:= [.int .i64 z]
def spanC (x:Int×Int):List Value:= [.int .i64 x.1,.int .i64 x.2]
abbrev IntsAt (w:World) (A:Option Addr) (zs:List Int):Prop:=RowAt 1 intC w A zs
abbrev SpansAt (w:World) (A:Option Addr) (xs:List (Int×Int)):Prop:=RowAt 2 spanC w A xs
theorem ints_cell {w:World} {b off:Nat} {zs:List Int} (hc:∀i x,zs[i]?=some x→∀j v,(intC x)[j]?=some v→w.cell? ⟨b,off+i*1+j,none⟩=some v) {k:Nat} (hk:k < zs.length):
  w.cell? ⟨b,off+k,none⟩=some (.int .i64 (zs.getD k 0)):=by
 have h:=hc k zs[k] (by simp [hk]) 0 _ rfl
 simpa [hk]using h
theorem spans_cell {w:World} {b off:Nat} {xs:List (Int×Int)} (hc:∀i x,xs[i]?=some x→∀j v,(spanC x)[j]?=some v→w.cell? ⟨b,off+i*2+j,none⟩=some v) {k:Nat} (hk:k < xs.length):
  w.cell? ⟨b,off+k*2,none⟩=some (.int .i64 (xs.getD k (0,0)).1)∧w.cell? ⟨b,off+k*2+1,none⟩=some (.int .i64 (xs.getD k (0,0)).2):=by
 have h0:=hc k xs[k] (by simp [hk]) 0 _ rfl
 have h1:=hc k xs[k] (by simp [hk]) 1 _ rfl
 exact ⟨by simpa [hk]using h0,by simpa [hk]using h1⟩
section
open Go.WideShapes Go.ChangeShapes
variable {H : Type} {enc : TypeId × Value → H} {P : Program}
theorem post_of_ext {f:Func} {s:ChangeSpec} {apart fresh handsOn again:Bool} {W W':World} {args:Array Value} {v:Value} {ds gs:List (DataW H)} {before pa pv:List MemPlace}
  (hW:DataW.Whole enc P f.params.toList s.vars apart W args.toList ds gs before)
  (hres:∀(b:Nat) (sp:Nat→Bool) (hd:Bool),DataW.TrodAll enc P W' b sp hd f.resultTypes.toList (v.resultList f.resultTypes.size) (s.fn H (ds++gs)).results [])
  (hargs:DataW.TrodAll enc P W' 0 (fun b=>decide (b < W.heap.size)) true f.params.toList args.toList (s.fn H (ds++gs)).args pa)
  (hvars:∀sp:Nat→Bool,(∀p∈before,sp p.block=true)→DataW.TrodVars enc P W' sp s.vars (s.fn H (ds++gs)).vars pv)
  (hps:before=pa++pv) (hb:Below W.heap.size W W') (hag:again=false):
  s.post enc P f apart fresh handsOn again W args v W':=by
 subst hag
 have hlt:∀p∈before,p.block < W.heap.size:=fun p hp=>hW.lt p hp
 have hold:∀p∈before,(fun b=>decide (b < W.heap.size)) p.block=true:=fun p hp=>by simpa using hlt p hp
 refine ⟨ds,gs,before,[],pa,pv,hW,hres _ _ _,hargs,hvars _ hold,World.keptBut_mono (fun p hp=>⟨hp,?_⟩) (hb.frame (·∈before)),fun h=>by cases h⟩
 rw [hps,List.mem_append]at hp
 exact Or.inr hp
end
end Go.Proofs.Ytemmjmplhknemaa
namespace Go.Proofs.Ytemmjmplhknemaa
open Go.RowKit
def dgF:Nat→Nat→List UInt8
 | 0,_=> []
 | f+1,n=>if n < 128 then [n.toUInt8]else (128+n % 128).toUInt8::dgF f (n/128)
def dgN (n:Nat):List UInt8:=dgF 9 n
def putB (n:Int):List UInt8:=if n < 0 then []else dgN n.toNat
def getF:List UInt8→Nat→Nat→Nat×Nat×Nat
 | [],_,_=>(0,0,2)
 | c::l,i,a=>if c.toNat < 128 then (if c.toNat=0∧0 < i then (0,0,1)else (a+c.toNat*128 ^ i,i+1,0))else if i=8 then (0,0,1)else getF l (i+1) (a+(c.toNat - 128)*128 ^ i)
def getB (l:List UInt8):Nat×Nat×Nat:=getF l 0 0
theorem toU8_lt {n:Nat} (h:n < 256):n.toUInt8.toNat=n:=by
 simp [Nat.toUInt8,UInt8.ofNat,UInt8.toNat]
 omega
theorem dgF_len:∀(f n:Nat),(dgF f n).length≤f
 | 0,n=>Nat.le_refl _
 | f+1,n=>by
  unfold dgF
  split
  ·simp
  ·have:=dgF_len f (n/128)
   rw [List.length_cons]
   omega
theorem dgF_pos {f n:Nat}:0 < (dgF (f+1) n).length:=by
 unfold dgF
 split <;>simp
theorem get_dgF (r:List UInt8):∀(f n i a:Nat),n < 128 ^ f→i+f≤9→(0 < i→0 < n)→0 < f→getF (dgF f n++r) i a=(a+n*128 ^ i,i+(dgF f n).length,0)
 | 0,n,i,a,_,_,_,h=>absurd h (by omega)
 | f+1,n,i,a,hn,hi,h0,_=>by
  unfold dgF
  by_cases h:n < 128
  ·rw [if_pos h,List.singleton_append,getF,toU8_lt (by omega),if_pos h,if_neg (by omega),List.length_singleton]
  ·rw [if_neg h,List.cons_append,getF,toU8_lt (by omega),if_neg (by omega)]
   have hf:0 < f:=by
    rcases Nat.eq_zero_or_pos f with rfl | hf
    ·simp at hn;omega
    ·exact hf
   rw [if_neg (by omega),get_dgF r f (n/128) (i+1) _ (by
    rw [Nat.pow_succ]at hn
    exact Nat.div_lt_of_lt_mul (by rw [Nat.mul_comm];exact hn)) (by omega) (fun _=>by omega) hf,List.length_cons]
   refine Prod.ext ?_ (Prod.ext ?_ rfl)
   ·show a+(128+n % 128 - 128)*128 ^ i+n/128*128 ^ (i+1)=a+n*128 ^ i
    rw [Nat.add_sub_cancel_left,Nat.pow_succ,Nat.add_assoc,←Nat.mul_assoc,Nat.mul_right_comm,←Nat.add_mul]
    congr 2
    omega
   ·show i+1+(dgF f (n/128)).length=i+((dgF f (n/128)).length+1)
    omega
theorem get_dg {n:Nat} (r:List UInt8) (h:n < 9223372036854775808):getB (dgN n++r)=(n,(dgN n).length,0):=by
 unfold getB dgN
 rw [get_dgF r 9 n 0 0 (by omega) (by omega) (by omega) (by omega)]
 simp
theorem getF_end (r:List UInt8):∀(l:List UInt8) (i a n k:Nat),getF l i a=(n,k,0)→getF (l++r) i a=(n,k,0)∧i < k∧k≤i+l.length
 | [],i,a,n,k,h=>by simp [getF]at h
 | c::l,i,a,n,k,h=>by
  rw [List.cons_append]
  unfold getF at h⊢
  split at h
  ·split at h
   ·simp at h
   ·rename_i h1 h2
    rw [if_pos h1,if_neg h2,h]
    simp only [Prod.mk.injEq]at h
    rw [List.length_cons]
    exact ⟨rfl,by omega,by omega⟩
  ·split at h
   ·simp at h
   ·rename_i h1 h2
    rw [if_neg h1,if_neg h2]
    obtain ⟨a1,a2,a3⟩:=getF_end r l _ _ _ _ h
    rw [List.length_cons]
    exact ⟨a1,by omega,by omega⟩
def w8B (z:Int):List UInt8:=(List.range 8).map fun i=>(z.toNat/256 ^ i).toUInt8
def tfB (b:Bool):List UInt8:= [if b then 1 else 0]
def spB (l:List (Int×Int)):List UInt8:=putB l.length++l.flatMap fun x=>putB x.1++putB x.2
def slB (l:List (Bool×Int×Int)):List UInt8:=putB l.length++l.flatMap fun x=>tfB x.1++putB x.2.1++w8B x.2.2
def wdB:Nat→List Int→List UInt8
 | 0,_=> []
 | f+1,l=>if l= []then []else
  putB (l.takeWhile (·==0)).length++if l.dropWhile (·==0)= []then []else
   putB ((l.dropWhile (·==0)).takeWhile (· !=0)).length++((l.dropWhile (·==0)).takeWhile (· !=0)).flatMap w8B++wdB f ((l.dropWhile (·==0)).dropWhile (· !=0))
def mgB:List UInt8:= [84,82,73,1]
def numO (most:Int) (b:List UInt8):Option (Int×List UInt8):=if (getB b).2.2≠0∨most < ((getB b).1:Int)then none else some (((getB b).1:Int),b.drop (getB b).2.1)
def takeO (n:Nat) (b:List UInt8):Option (List UInt8×List UInt8):=if b.length < n then none else some (b.take n,b.drop n)
def valB (l:List UInt8):Int:=l.foldr (fun c a=>c.toNat+256*a) 0
def wordO (b:List UInt8):Option (Int×List UInt8):=(takeO 8 b).map fun x=>(valB x.1,x.2)
def truO (t:UInt8→Bool) (b:List UInt8):Option (Bool×List UInt8):=(takeO 1 b).map fun x=>(t (x.1.headD 0),x.2)
def spanO (b:List UInt8):Option ((Int×Int)×List UInt8):=(numO 1099511627776 b).bind fun x=>(numO 1099511627776 x.2).map fun y=>((x.1,y.1),y.2)
def slotO (t:UInt8→Bool) (b:List UInt8):Option ((Bool×Int×Int)×List UInt8):=(truO t b).bind fun x=>(numO 1099511627776 x.2).bind fun y=>(wordO y.2).map fun z=>((x.1,y.1,z.1),z.2)
def manyO {α:Type} (f:List UInt8→Option (α×List UInt8)):Nat→List UInt8→Option (List α×List UInt8)
 | 0,b=>some ([],b)
 | n+1,b=>(f b).bind fun x=>(manyO f n x.2).map fun y=>(x.1::y.1,y.2)
def listO {α:Type} (most:Int) (f:List UInt8→Option (α×List UInt8)) (b:List UInt8):Option (List α×List UInt8):=(numO most b).bind fun x=>manyO f x.1.toNat x.2
def wordsO:Nat→Nat→List UInt8→Option (List Int×List UInt8)
 | 0,_,_=>none
 | f + 1, n, b => if n = 0 then some ([], b) else (numO n b).bind fun z => if z.1.toNat = n then some (List.replicate n 0, z.2) else
   (numO (n - z.1.toNat:Nat) z.2).bind fun k=>(manyO wordO k.1.toNat k.2).bind fun u=>(wordsO f (n - z.1.toNat - k.1.toNat) u.2).map fun v=>(List.replicate z.1.toNat 0++u.1++v.1,v.2)
theorem num_put {most n:Int} {r:List UInt8} (h0:0≤n) (h1:n≤most) (h2:n < 9223372036854775808):numO most (putB n++r)=some (n,r):=by
 have e:putB n=dgN n.toNat:=by rw [putB,if_neg (by omega)]
 have h:=get_dg (n:=n.toNat) r (by omega)
 unfold numO
 rw [e]
 simp only [h]
 rw [if_neg (by omega),List.drop_left,show ((n.toNat:Nat):Int)=n by omega]
theorem take_app {l r:List UInt8} {n:Nat} (h:l.length=n):takeO n (l++r)=some (l,r):=by
 subst h
 unfold takeO
 rw [if_neg (by simp)]
 simp
theorem w8_len {z:Int}:(w8B z).length=8:=by simp [w8B]
theorem toU8_mod {n:Nat}:n.toUInt8.toNat=n % 256:=by
 simp [Nat.toUInt8,UInt8.ofNat,UInt8.toNat]
theorem val_w8 {z:Int} (h0:0≤z) (h1:z < 18446744073709551616):valB (w8B z)=z:=by
 have e:w8B z= [(z.toNat/1).toUInt8,(z.toNat/256).toUInt8,(z.toNat/65536).toUInt8,(z.toNat/16777216).toUInt8,(z.toNat/4294967296).toUInt8,(z.toNat/1099511627776).toUInt8,(z.toNat/281474976710656).toUInt8,(z.toNat/72057594037927936).toUInt8]:=rfl
 rw [e]
 simp only [valB,List.foldr_cons,List.foldr_nil,toU8_mod]
 omega
theorem word_w8 {z:Int} {r:List UInt8} (h0:0≤z) (h1:z < 18446744073709551616):wordO (w8B z++r)=some (z,r):=by
 unfold wordO
 rw [take_app w8_len,Option.map_some,val_w8 h0 h1]
theorem tru_tr {t:UInt8→Bool} (h0:t 0=false) (h1:t 1=true) {b:Bool} {r:List UInt8}:truO t (tfB b++r)=some (b,r):=by
 unfold truO
 rw [take_app (n:=1) rfl,Option.map_some]
 cases b
 ·exact congrArg (fun x=>some (x,r)) h0
 ·exact congrArg (fun x=>some (x,r)) h1
theorem many_flat {α:Type} {f:List UInt8→Option (α×List UInt8)} {g:α→List UInt8}:∀(l:List α) (r:List UInt8),(∀x∈l,∀r,f (g x++r)=some (x,r))→manyO f l.length (l.flatMap g++r)=some (l,r)
 | [],r,_=>rfl
 | x::l,r,h=>by
  rw [List.length_cons,List.flatMap_cons,List.append_assoc,manyO,h x List.mem_cons_self,Option.bind_some,many_flat l r fun y hy=>h y (List.mem_cons_of_mem _ hy),Option.map_some]
theorem list_flat {α:Type} {most:Int} {f:List UInt8→Option (α×List UInt8)} {g:α→List UInt8} {l:List α} {r:List UInt8} (hl:(l.length:Int)≤most) (h2:(l.length:Int) < 9223372036854775808) (h:∀x∈l,∀r,f (g x++r)=some (x,r)):listO most f (putB l.length++l.flatMap g++r)=some (l,r):=by
 unfold listO
 rw [List.append_assoc,num_put (by omega) hl h2,Option.bind_some]
 exact many_flat l r h
theorem span_put {x:Int×Int} {r:List UInt8} (h:0≤x.1∧x.1≤1099511627776∧0≤x.2∧x.2≤1099511627776):spanO (putB x.1++putB x.2++r)=some (x,r):=by
 unfold spanO
 rw [List.append_assoc,num_put h.1 h.2.1 (by omega),Option.bind_some,num_put h.2.2.1 h.2.2.2 (by omega),Option.map_some]
theorem slot_put {t:UInt8→Bool} (h0:t 0=false) (h1:t 1=true) {x:Bool×Int×Int} {r:List UInt8} (h:0≤x.2.1∧x.2.1≤1099511627776∧0≤x.2.2∧x.2.2 < 18446744073709551616):slotO t (tfB x.1++putB x.2.1++w8B x.2.2++r)=some (x,r):=by
 unfold slotO
 rw [List.append_assoc,List.append_assoc,tru_tr h0 h1,Option.bind_some,num_put h.1 h.2.1 (by omega),Option.bind_some,word_w8 h.2.2.1 h.2.2.2,Option.map_some]
theorem run_parts (l:List Int):l.takeWhile (·==0)=List.replicate (l.takeWhile (·==0)).length 0:=by
 refine List.eq_replicate_iff.2 ⟨rfl,fun x hx=> ?_⟩
 have:=List.all_eq_true.1 (List.all_takeWhile (p:=fun x=>x==0) (l:=l)) x hx
 simpa using this
theorem words_wd:∀(f:Nat) (l:List Int) (r:List UInt8),l.length < f→l.length < 9223372036854775808→(∀z∈l,0≤z∧z < 18446744073709551616)→wordsO f l.length (wdB f l++r)=some (l,r)
 | 0,l,r,h,_,_=>absurd h (by omega)
 | f+1,l,r,h,h63,hb=>by
  unfold wordsO wdB
  by_cases h0:l= []
  ·subst h0
   rfl
  have hl:l.length≠0:=fun e=>h0 (List.eq_nil_of_length_eq_zero e)
  rw [if_neg hl,if_neg h0]
  have e1:l.takeWhile (·==0)++l.dropWhile (·==0)=l:=List.takeWhile_append_dropWhile
  have hz:=run_parts l
  have hd:=List.head?_dropWhile_not (·==0) l
  generalize l.takeWhile (·==0)=zs at*
  generalize l.dropWhile (·==0)=ys at*
  have l1:zs.length+ys.length=l.length:=by rw [←e1,List.length_append]
  rw [List.append_assoc,num_put (by omega) (by omega) (by omega),Option.bind_some]
  simp only [Int.toNat_natCast]
  by_cases hy:ys= []
  ·subst hy
   rw [List.append_nil]at e1
   rw [if_pos (by simpa using l1),if_pos rfl,List.nil_append,←e1,←hz]
  have hyl:ys.length≠0:=fun e=>hy (List.eq_nil_of_length_eq_zero e)
  have hu:0 < (ys.takeWhile (· !=0)).length:=by
   cases ys with
   | nil=>exact absurd rfl hy
   | cons y t=>
    have hd:(y==0)=false:=hd
    have hd2:(y !=0)=true:=by simpa using hd
    rw [List.takeWhile_cons,hd2]
    simp
  rw [if_neg (by omega),if_neg hy]
  have e2:ys.takeWhile (· !=0)++ys.dropWhile (· !=0)=ys:=List.takeWhile_append_dropWhile
  generalize ys.takeWhile (· !=0)=us at*
  generalize ys.dropWhile (· !=0)=vs at*
  have l2:us.length+vs.length=ys.length:=by rw [←e2,List.length_append]
  have hmem:∀z,z∈us∨z∈vs→0≤z∧z < 18446744073709551616:=fun z h=>hb z (by rw [←e1,←e2];simp [h])
  rw [List.append_assoc,List.append_assoc,num_put (by omega) (by omega) (by omega),Option.bind_some]
  simp only [Int.toNat_natCast]
  rw [many_flat us _ fun z hz r=>word_w8 (hmem z (.inl hz)).1 (hmem z (.inl hz)).2,Option.bind_some]
  simp only
  by_cases hlt:vs.length < f
  ·rw [show l.length - zs.length - us.length=vs.length by omega,words_wd f vs r hlt (by omega) fun z hz=>hmem z (.inr hz),Option.map_some,←hz,List.append_assoc,e2,e1]
  ·omega
def mayB (a s:Int):Bool:=decide (0≤a∧a≤1099511627776∧1≤s∧s≤1099511627776 - a)
theorem end_any (a s:Int) (w:World):
  Calls Try.prog 80 #[.agg #[.int .i64 (a),.int .i64 (s)]] w fun e w'=>e= .returned (.int .i64 (wrap64 (a+s)))∧Ext w w':=by
 go_enter Try.func80,Try.ntmps80
 go_wp2
 go_ret
 exact ⟨rfl,(Ext.refl _).alloc _⟩
theorem may_any (a s:Int) (w:World):
  Calls Try.prog 27 #[.agg #[.int .i64 (a),.int .i64 (s)]] w fun e w'=>e= .returned (.bool (mayB a s))∧Ext w w':=by
 go_enter Try.func27,Try.ntmps27
 go_wp2
 all_goals go_ret
 all_goals exact ⟨ret_bool (by unfold mayB;simp [*];try omega),(Ext.refl _).alloc _⟩
def hasB (a s p:Int):Bool:=mayB a s && decide (a≤p∧p < a+s)
theorem may_bd {a s:Int} (h:mayB a s=true):0≤a∧a≤1099511627776∧1≤s∧s≤1099511627776 - a:=by
 simpa [mayB]using h
def coveredB (xs:List (Int×Int)) (p:Int):Bool:=xs.any fun x=>hasB x.1 x.2 p
def withinB (a s c d:Int):Bool:=mayB a s && mayB c d && decide (c≤a∧a+s≤c+d)
theorem may_is (a s:Int) (b:Bool) (h:mayB a s=b) (w:World):Calls Try.prog 27 #[.agg #[.int .i64 (a),.int .i64 (s)]] w fun e w'=>e= .returned (.bool b)∧Ext w w':=by
 rw [←h];exact may_any a s w
theorem end_is (a s:Int) (h:mayB a s=true) (w:World):Calls Try.prog 80 #[.agg #[.int .i64 (a),.int .i64 (s)]] w fun e w'=>e= .returned (.int .i64 (a+s))∧Ext w w':=by
 have:=may_bd h
 have h2:=end_any a s w
 rw [IntWalk.wrap64_in (a+s) ⟨by omega,by omega⟩]at h2
 exact h2
theorem within_no1 {a s c d:Int} (h1:mayB a s=false):withinB a s c d=false:=by unfold withinB;simp [h1]
theorem within_no2 {a s c d:Int} (h1:mayB c d=false):withinB a s c d=false:=by unfold withinB;simp [h1]
theorem within_alt {a s c d:Int} (h1:mayB a s=true) (h2:mayB c d=true):withinB a s c d=(decide (c≤a) && decide (a+s≤c+d)):=by
 unfold withinB
 rw [h1,h2,Bool.eq_iff_iff]
 simp
theorem within_any (a s c d:Int) (w:World):
  Calls Try.prog 68 #[.agg #[.int .i64 (a),.int .i64 (s)],.agg #[.int .i64 (c),.int .i64 (d)]] w fun e w'=>e= .returned (.bool (withinB a s c d))∧Ext w w':=by
 go_enter Try.func68,Try.ntmps68
 go_wp2_with fail
 have hW:Ext w ((w.alloc (.cells #[.int .i64 a,.int .i64 s] 62)).alloc (.cells #[.int .i64 c,.int .i64 d] 62)):=((Ext.refl w).alloc _).alloc _
 have k0:=boxed w #[.int .i64 a,.int .i64 s] 62 0 (.int .i64 a) rfl
 have k1:=boxed w #[.int .i64 a,.int .i64 s] 62 1 (.int .i64 s) rfl
 have k2:=boxed (w.alloc (.cells #[.int .i64 a,.int .i64 s] 62)) #[.int .i64 c,.int .i64 d] 62 0 (.int .i64 c) rfl
 have k3:=boxed (w.alloc (.cells #[.int .i64 a,.int .i64 s] 62)) #[.int .i64 c,.int .i64 d] 62 1 (.int .i64 d) rfl
 replace k0:∀w',Ext ((w.alloc (.cells #[.int .i64 a,.int .i64 s] 62)).alloc (.cells #[.int .i64 c,.int .i64 d] 62)) w'→_:=fun w' h=>k0 w' (((Ext.refl _).alloc _).trans h)
 replace k1:∀w',Ext ((w.alloc (.cells #[.int .i64 a,.int .i64 s] 62)).alloc (.cells #[.int .i64 c,.int .i64 d] 62)) w'→_:=fun w' h=>k1 w' (((Ext.refl _).alloc _).trans h)
 simp only [World.size_alloc]at k2 k3
 generalize (w.alloc (.cells #[.int .i64 a,.int .i64 s] 62)).alloc (.cells #[.int .i64 c,.int .i64 d] 62)=W at*
 have hs0:Ext W W:=Ext.refl W
 have l0:=fun u:ExtOf W=>k0 u.1 u.2
 have l1:=fun u:ExtOf W=>k1 u.1 u.2
 have l2:=fun u:ExtOf W=>k2 u.1 u.2
 have l3:=fun u:ExtOf W=>k3 u.1 u.2
 clear k0 k1 k2 k3
 cases h1:mayB a s
 ·have H:=zH (within_no1 (c:=c) (d:=d) h1)
  (refine wp_region_ext (W:=W) (by kernel_rfl) (by kernel_rfl) (by with_reducible assumption) ?_;(repeat (go_big_quiet_step (first | (go_at_call 27;with_reducible exact Calls.ext_of (may_is a s _ h1 _)))));refine wpQuiet_nil ?_;intro w1 hx)
  go_wp2_with fail
  go_ret
  exact ⟨ret_bool (by rw [H.out]),hW.trans (by assumption)⟩
 cases h2:mayB c d
 ·have H:=zH (within_no2 (a:=a) (s:=s) h2)
  (refine wp_region_ext (W:=W) (by kernel_rfl) (by kernel_rfl) (by with_reducible assumption) ?_;(repeat (go_big_quiet_step (first | (go_at_call 27;with_reducible exact Calls.ext_of (may_is a s _ h1 _)) | (go_at_call 27;with_reducible exact Calls.ext_of (may_is c d _ h2 _)))));refine wpQuiet_nil ?_;intro w1 hx)
  go_wp2_with fail
  go_ret
  exact ⟨ret_bool (by rw [H.out]),hW.trans (by assumption)⟩
 have HE:=zH (within_alt h1 h2)
 obtain ⟨q1,q2,q3,q4⟩:=may_bd h1
 obtain ⟨q5,q6,q7,q8⟩:=may_bd h2
 by_cases t1:c≤a
 rotate_left
 ·have t1':decide (c≤a)=false:=by simpa using t1
  have H:Hid (withinB a s c d=false):=zH (by rw [HE.out,t1'];rfl)
  (refine wp_region_ext (W:=W) (by kernel_rfl) (by kernel_rfl) (by with_reducible assumption) ?_;(repeat (go_big_quiet_step (first | (go_at_call 27;with_reducible exact Calls.ext_of (may_is a s _ h1 _)) | (go_at_call 27;with_reducible exact Calls.ext_of (may_is c d _ h2 _)))));refine wpQuiet_nil ?_;intro w1 hx)
  go_wp2_with fail
  go_ret
  exact ⟨ret_bool (by rw [H.out]),hW.trans (by assumption)⟩
 have t1':decide (c≤a)=true:=by simpa using t1
 by_cases t2:a+s≤c+d
 rotate_left
 ·have t2':decide (a+s≤c+d)=false:=by simpa using t2
  have H:Hid (withinB a s c d=false):=zH (by rw [HE.out,t1',t2'];rfl)
  (refine wp_region_ext (W:=W) (by kernel_rfl) (by kernel_rfl) (by with_reducible assumption) ?_;(repeat (go_big_quiet_step (first | (go_at_call 27;with_reducible exact Calls.ext_of (may_is a s _ h1 _)) | (go_at_call 27;with_reducible exact Calls.ext_of (may_is c d _ h2 _)) | (go_at_call 80;with_reducible exact Calls.ext_of (end_is c d h2 _)) | (go_at_call 80;with_reducible exact Calls.ext_of (end_is a s h1 _)))));refine wpQuiet_nil ?_;intro w1 hx)
  go_wp2_with fail
  go_ret
  exact ⟨ret_bool (by rw [H.out]),hW.trans (by assumption)⟩
 ·have t2':decide (a+s≤c+d)=true:=by simpa using t2
  have H:Hid (withinB a s c d=true):=zH (by rw [HE.out,t1',t2'];rfl)
  (refine wp_region_ext (W:=W) (by kernel_rfl) (by kernel_rfl) (by with_reducible assumption) ?_;(repeat (go_big_quiet_step (first | (go_at_call 27;with_reducible exact Calls.ext_of (may_is a s _ h1 _)) | (go_at_call 27;with_reducible exact Calls.ext_of (may_is c d _ h2 _)) | (go_at_call 80;with_reducible exact Calls.ext_of (end_is c d h2 _)) | (go_at_call 80;with_reducible exact Calls.ext_of (end_is a s h1 _)))));refine wpQuiet_nil ?_;intro w1 hx)
  go_wp2_with fail
  go_ret
  exact ⟨ret_bool (by rw [H.out]),hW.trans (by assumption)⟩
def cfgB (s l t m:Int):Bool:=decide (2≤s∧s≤32768∧1≤m∧m≤s∧0≤l∧l≤32768∧1≤t∧t≤1024)
def wordsZ (s l t m:Int):Int:=if cfgB s l t m then 2*s+l else 0
def halfA (s l t m:Int) (b:Bool):Int:=if cfgB s l t m then (if b then s else 0)else 0
def halfS (s l t m:Int):Int:=if cfgB s l t m then s else 0
def largeA (s l t m:Int):Int:=if cfgB s l t m then (if l=0 then 0 else 2*s)else 0
def largeS (s l t m:Int):Int:=if cfgB s l t m then l else 0
def smallB (s l t m at_:Int):Bool:=cfgB s l t m && decide (1≤at_∧at_≤m)
theorem cfg_bd {s l t m:Int} (h:cfgB s l t m=true):2≤s∧s≤32768∧1≤m∧m≤s∧0≤l∧l≤32768∧1≤t∧t≤1024:=by
 simpa [cfgB]using h
theorem check_any (s l t m:Int) (w:World):
  Calls Try.prog 23 #[.agg #[.int .i64 (s),.int .i64 (l),.int .i64 (t),.int .i64 (m)]] w fun e w'=>e= .returned (.bool (cfgB s l t m))∧Ext w w':=by
 go_enter Try.func23,Try.ntmps23
 go_wp2
 all_goals go_ret
 all_goals exact ⟨ret_bool (by unfold cfgB;simp [*];try omega),zF⟩
theorem words_any (s l t m:Int) (w:World):
  Calls Try.prog 25 #[.agg #[.int .i64 (s),.int .i64 (l),.int .i64 (t),.int .i64 (m)]] w fun e w'=>e= .returned (.int .i64 (wordsZ s l t m))∧Ext w w':=by
 by_cases hb:cfgB s l t m=true
 ·obtain ⟨h1,h2,h3,h4,h5,h6,h7,h8⟩:=cfg_bd hb
  go_enter Try.func25,Try.ntmps25
  go_wp2_with (go_at_call 23;refine (check_any _ _ _ _ _).mono ?_;rintro e w1 ⟨rfl,hx⟩;obtain ⟨hcc,hff,hzz⟩:=ecell hx;(try simp only [World.size_alloc]at hzz);(try (have hz0:=Nat.lt_of_succ_le hzz));(try (have hz1:=Nat.lt_of_succ_lt hz0));(try (have hz2:=Nat.lt_of_succ_lt hz1));(try (have hz3:=Nat.lt_of_succ_lt hz2)))
  go_ret
  exact ⟨ret_int (by simp [wordsZ,hb]),zF⟩
 ·have hb':cfgB s l t m=false:=by simpa using hb
  go_enter Try.func25,Try.ntmps25
  go_wp2_with (go_at_call 23;refine (check_any _ _ _ _ _).mono ?_;rintro e w1 ⟨rfl,hx⟩;obtain ⟨hcc,hff,hzz⟩:=ecell hx;(try simp only [World.size_alloc]at hzz);(try (have hz0:=Nat.lt_of_succ_le hzz));(try (have hz1:=Nat.lt_of_succ_lt hz0));(try (have hz2:=Nat.lt_of_succ_lt hz1));(try (have hz3:=Nat.lt_of_succ_lt hz2)))
  go_ret
  exact ⟨ret_int (by simp [wordsZ,hb']),zF⟩
theorem parts_yes {s l t m:Int} {b:Bool} (hb:cfgB s l t m=true):(.agg #[.int .i64 (halfA s l t m b),.int .i64 (halfS s l t m),.int .i64 (halfA s l t m (!b)),.int .i64 (halfS s l t m),.int .i64 (largeA s l t m),.int .i64 (largeS s l t m)]:Value)=Value.agg #[.int .i64 (if b then s else 0),.int .i64 s,.int .i64 (if b then 0 else s),.int .i64 s,.int .i64 (if l=0 then 0 else 2*s),.int .i64 l]:=by
 cases b <;>simp [halfA,halfS,largeA,largeS,hb]
theorem parts_no {s l t m:Int} {b:Bool} (hb:cfgB s l t m=false):(.agg #[.int .i64 (halfA s l t m b),.int .i64 (halfS s l t m),.int .i64 (halfA s l t m (!b)),.int .i64 (halfS s l t m),.int .i64 (largeA s l t m),.int .i64 (largeS s l t m)]:Value)=Value.agg #[.int .i64 0,.int .i64 0,.int .i64 0,.int .i64 0,.int .i64 0,.int .i64 0]:=by
 cases b <;>simp [halfA,halfS,largeA,largeS,hb]
theorem parts_any (s l t m:Int) (b:Bool) (w:World):
  Calls Try.prog 38 #[.agg #[.int .i64 (s),.int .i64 (l),.int .i64 (t),.int .i64 (m)],.bool b] w fun e w'=>e= .returned (.agg #[.int .i64 (halfA s l t m b),.int .i64 (halfS s l t m),.int .i64 (halfA s l t m (!b)),.int .i64 (halfS s l t m),.int .i64 (largeA s l t m),.int .i64 (largeS s l t m)])∧Ext w w':=by
 by_cases hb:cfgB s l t m=true
 ·rw [parts_yes hb]
  obtain ⟨h1,h2,h3,h4,h5,h6,h7,h8⟩:=cfg_bd hb
  by_cases h9:l=0
  ·subst h9
   cases b
   ·go_enter Try.func38,Try.ntmps38
    go_wp2_with (go_at_call 23;refine (check_any _ _ _ _ _).mono ?_;rintro e w1 ⟨rfl,hx⟩;obtain ⟨hcc,hff,hzz⟩:=ecell hx;(try simp only [World.size_alloc]at hzz);(try (have hz0:=Nat.lt_of_succ_le hzz));(try (have hz1:=Nat.lt_of_succ_lt hz0));(try (have hz2:=Nat.lt_of_succ_lt hz1));(try (have hz3:=Nat.lt_of_succ_lt hz2)))
    ((try simp only [Exit.inBlock,Exit.then]);refine bodyPost_ret (v:= .agg #[.int .i64 0,.int .i64 s,.int .i64 s,.int .i64 s,.int .i64 0,.int .i64 0]) (by simp only [results,Try.results38];go_simp) rfl ?_)
    exact ⟨rfl,zF⟩
   ·go_enter Try.func38,Try.ntmps38
    go_wp2_with (go_at_call 23;refine (check_any _ _ _ _ _).mono ?_;rintro e w1 ⟨rfl,hx⟩;obtain ⟨hcc,hff,hzz⟩:=ecell hx;(try simp only [World.size_alloc]at hzz);(try (have hz0:=Nat.lt_of_succ_le hzz));(try (have hz1:=Nat.lt_of_succ_lt hz0));(try (have hz2:=Nat.lt_of_succ_lt hz1));(try (have hz3:=Nat.lt_of_succ_lt hz2)))
    ((try simp only [Exit.inBlock,Exit.then]);refine bodyPost_ret (v:= .agg #[.int .i64 s,.int .i64 s,.int .i64 0,.int .i64 s,.int .i64 0,.int .i64 0]) (by simp only [results,Try.results38];go_simp) rfl ?_)
    exact ⟨rfl,zF⟩
  ·have hl:((l:Int)==0)=false:=by simpa using h9
   rw [if_neg h9]
   cases b
   ·go_enter Try.func38,Try.ntmps38
    go_wp2_with (go_at_call 23;refine (check_any _ _ _ _ _).mono ?_;rintro e w1 ⟨rfl,hx⟩;obtain ⟨hcc,hff,hzz⟩:=ecell hx;(try simp only [World.size_alloc]at hzz);(try (have hz0:=Nat.lt_of_succ_le hzz));(try (have hz1:=Nat.lt_of_succ_lt hz0));(try (have hz2:=Nat.lt_of_succ_lt hz1));(try (have hz3:=Nat.lt_of_succ_lt hz2)))
    ((try simp only [Exit.inBlock,Exit.then]);refine bodyPost_ret (v:= .agg #[.int .i64 0,.int .i64 s,.int .i64 s,.int .i64 s,.int .i64 (2*s),.int .i64 l]) (by simp only [results,Try.results38];go_simp) rfl ?_)
    exact ⟨rfl,zF⟩
   ·go_enter Try.func38,Try.ntmps38
    go_wp2_with (go_at_call 23;refine (check_any _ _ _ _ _).mono ?_;rintro e w1 ⟨rfl,hx⟩;obtain ⟨hcc,hff,hzz⟩:=ecell hx;(try simp only [World.size_alloc]at hzz);(try (have hz0:=Nat.lt_of_succ_le hzz));(try (have hz1:=Nat.lt_of_succ_lt hz0));(try (have hz2:=Nat.lt_of_succ_lt hz1));(try (have hz3:=Nat.lt_of_succ_lt hz2)))
    ((try simp only [Exit.inBlock,Exit.then]);refine bodyPost_ret (v:= .agg #[.int .i64 s,.int .i64 s,.int .i64 0,.int .i64 s,.int .i64 (2*s),.int .i64 l]) (by simp only [results,Try.results38];go_simp) rfl ?_)
    exact ⟨rfl,zF⟩
 ·have hb':cfgB s l t m=false:=by simpa using hb
  rw [parts_no hb']
  go_enter Try.func38,Try.ntmps38
  go_wp2_with (go_at_call 23;refine (check_any _ _ _ _ _).mono ?_;rintro e w1 ⟨rfl,hx⟩;obtain ⟨hcc,hff,hzz⟩:=ecell hx;(try simp only [World.size_alloc]at hzz);(try (have hz0:=Nat.lt_of_succ_le hzz));(try (have hz1:=Nat.lt_of_succ_lt hz0));(try (have hz2:=Nat.lt_of_succ_lt hz1));(try (have hz3:=Nat.lt_of_succ_lt hz2)))
  ((try simp only [Exit.inBlock,Exit.then]);refine bodyPost_ret (v:= .agg #[.int .i64 0,.int .i64 0,.int .i64 0,.int .i64 0,.int .i64 0,.int .i64 0]) (by simp only [results,Try.results38];go_simp) rfl ?_)
  exact ⟨rfl,zF⟩
theorem idx0 (v0 v1 v2 v3 v4 v5:Value) (w:World):(Instr.index 80 (.agg #[v0,v1,v2,v3,v4,v5]) (.int .i64 0)).run Try.prog w= .ok (.agg #[v0,v1]) w:=by kernel_rfl
theorem idx2 (v0 v1 v2 v3 v4 v5:Value) (w:World):(Instr.index 80 (.agg #[v0,v1,v2,v3,v4,v5]) (.int .i64 2)).run Try.prog w= .ok (.agg #[v4,v5]) w:=by kernel_rfl
theorem from_any (s l t m:Int) (b:Bool) (w:World):
  Calls Try.prog 50 #[.agg #[.int .i64 (s),.int .i64 (l),.int .i64 (t),.int .i64 (m)],.bool b] w fun e w'=>e= .returned (.agg #[.int .i64 (halfA s l t m b),.int .i64 (halfS s l t m)])∧Ext w w':=by
 have i0:=idx0
 go_enter Try.func50,Try.ntmps50
 go_wp2_with (go_at_call 38;refine (parts_any _ _ _ _ _ _).mono ?_;rintro e w1 ⟨rfl,hx⟩;obtain ⟨hcc,hff,hzz⟩:=ecell hx;(try simp only [World.size_alloc]at hzz);(try (have hz0:=Nat.lt_of_succ_le hzz));(try (have hz1:=Nat.lt_of_succ_lt hz0));(try (have hz2:=Nat.lt_of_succ_lt hz1));(try (have hz3:=Nat.lt_of_succ_lt hz2)))
 ((try simp only [Exit.inBlock,Exit.then]);refine bodyPost_ret (v:= .agg #[.int .i64 (halfA s l t m b),.int .i64 (halfS s l t m)]) (by simp only [results,Try.results50];go_simp) rfl ?_)
 exact ⟨rfl,zF⟩
theorem large_any (s l t m:Int) (w:World):
  Calls Try.prog 26 #[.agg #[.int .i64 (s),.int .i64 (l),.int .i64 (t),.int .i64 (m)]] w fun e w'=>e= .returned (.agg #[.int .i64 (largeA s l t m),.int .i64 (largeS s l t m)])∧Ext w w':=by
 have i0:=idx2
 go_enter Try.func26,Try.ntmps26
 go_wp2_with (go_at_call 38;refine (parts_any _ _ _ _ _ _).mono ?_;rintro e w1 ⟨rfl,hx⟩;obtain ⟨hcc,hff,hzz⟩:=ecell hx;(try simp only [World.size_alloc]at hzz);(try (have hz0:=Nat.lt_of_succ_le hzz));(try (have hz1:=Nat.lt_of_succ_lt hz0));(try (have hz2:=Nat.lt_of_succ_lt hz1));(try (have hz3:=Nat.lt_of_succ_lt hz2)))
 ((try simp only [Exit.inBlock,Exit.then]);refine bodyPost_ret (v:= .agg #[.int .i64 (largeA s l t m),.int .i64 (largeS s l t m)]) (by simp only [results,Try.results26];go_simp) rfl ?_)
 exact ⟨rfl,zF⟩
theorem small_any (s l t m at_:Int) (w:World):
  Calls Try.prog 55 #[.agg #[.int .i64 (s),.int .i64 (l),.int .i64 (t),.int .i64 (m)],.int .i64 at_] w fun e w'=>e= .returned (.bool (smallB s l t m at_))∧Ext w w':=by
 by_cases hb:cfgB s l t m=true
 ·go_enter Try.func55,Try.ntmps55
  go_wp2_with (go_at_call 23;refine (check_any _ _ _ _ _).mono ?_;rintro e w1 ⟨rfl,hx⟩;obtain ⟨hcc,hff,hzz⟩:=ecell hx;(try simp only [World.size_alloc]at hzz);(try (have hz0:=Nat.lt_of_succ_le hzz));(try (have hz1:=Nat.lt_of_succ_lt hz0));(try (have hz2:=Nat.lt_of_succ_lt hz1));(try (have hz3:=Nat.lt_of_succ_lt hz2)))
  all_goals go_ret
  all_goals exact ⟨ret_bool (by unfold smallB;simp [*];try omega),zF⟩
 ·have hb':cfgB s l t m=false:=by simpa using hb
  go_enter Try.func55,Try.ntmps55
  go_wp2_with (go_at_call 23;refine (check_any _ _ _ _ _).mono ?_;rintro e w1 ⟨rfl,hx⟩;obtain ⟨hcc,hff,hzz⟩:=ecell hx;(try simp only [World.size_alloc]at hzz);(try (have hz0:=Nat.lt_of_succ_le hzz));(try (have hz1:=Nat.lt_of_succ_lt hz0));(try (have hz2:=Nat.lt_of_succ_lt hz1));(try (have hz3:=Nat.lt_of_succ_lt hz2)))
  go_ret
  exact ⟨ret_bool (by unfold smallB;simp [hb']),zF⟩
end Go.Proofs.Ytemmjmplhknemaa
