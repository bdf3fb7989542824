/- Merged by program (merge.py) out of: PkF, PkR, PkS, PkG. -/
import Derived.Lib.ConvBytes
import Derived.Test.YtemmjmplhknemaaMp37
import Derived.Test.YtemmjmplhknemaaMp2
import Derived.Test.YtemmjmplhknemaaMp3
import Derived.Test.YtemmjmplhknemaaMp7
import Derived.Test.YtemmjmplhknemaaMp10
set_option linter.unusedSimpArgs false
set_option linter.unusedVariables false
set_option maxRecDepth 100000
set_option maxHeartbeats 16000000
namespace Go.Proofs.Ytemmjmplhknemaa
open Go.RowKit Go.Shelf
theorem ext_bytes (w:World) (e:TypeId) (s:ByteArray):Ext w (Lib.bytesWorld w e s):=by
 have h:=((Ext.refl w).drew).alloc (.cells (Lib.bytesCells w e s) e)
 exact ⟨h.os,h.tape,h.output,by rw [Lib.bytesWorld_size];omega,fun k hk=>Lib.bytesWorld_at_old w e s k hk⟩
def valN (l:List UInt8):Nat→Nat
 | 0=>0
 | k+1=>valN l k+(l.getD k 0).toNat*256 ^ k
theorem valN_lt (l:List UInt8):∀k,valN l k < 256 ^ k
 | 0=>by simp [valN]
 | k+1=>by
  have h:=valN_lt l k
  have hc:=(l.getD k 0).toNat_lt
  rw [valN,Nat.pow_succ]
  have:(l.getD k 0).toNat*256 ^ k≤255*256 ^ k:=Nat.mul_le_mul_right _ (by omega)
  omega
theorem pow256 (k:Nat):256 ^ k=2 ^ (8*k):=by rw [show (256:Nat)=2 ^ 8 from rfl,←Nat.pow_mul]
theorem word_val {v c k:Nat} (hv:v < 256 ^ k) (hk:k < 8) (hc:c < 256):bits .or .u64 (v:Int) (IntKind.u64.wrap (IntKind.u64.wrap (c:Int)*2 ^ (8*k)))=((v+c*256 ^ k:Nat):Int):=by
 have hp:256 ^ (k+1)≤256 ^ 8:=Nat.pow_le_pow_right (by omega) (by omega)
 have e8:(256:Nat) ^ 8=18446744073709551616:=by decide
 rw [Nat.pow_succ]at hp
 have hm:c*256 ^ k≤255*256 ^ k:=Nat.mul_le_mul_right _ (by omega)
 have e1:IntKind.u64.wrap (c:Int)=(c:Int):=by
  rw [IntKind.wrap_u64]
  omega
 have e2:(c:Int)*2 ^ (8*k)=((2 ^ (8*k)*c:Nat):Int):=by
  push_cast
  rw [Int.mul_comm]
 have e3:2 ^ (8*k)*c=c*256 ^ k:=by rw [pow256,Nat.mul_comm]
 rw [e1,e2,IntKind.wrap_u64,show (((2 ^ (8*k)*c:Nat):Int)) % 18446744073709551616=((2 ^ (8*k)*c:Nat):Int)by
  rw [e3]
  omega,or_high v c (8*k) (by rw [←pow256];exact hv) (by rw [e3];omega),e3]
theorem word_run {l:List UInt8} (hl:l.length=8) {X:Nat} {s:ByteArray} {bad:Bool} {V V1:World} (HZ:Hid (Calls Try.prog 18 #[.pointer (some ⟨X,0,none⟩),.int .i64 8] V fun e w'=>e= .returned (.string ⟨l.toArray⟩)∧Ext V1 w')):Calls Try.prog 22 #[.pointer (some ⟨X,0,none⟩)] V fun e w'=>e= .returned (.int .u64 (valN l 8))∧Ext V1 w':=by
 go_enter Try.func22,Try.ntmps22
 go_wp2_with fail
 refine HZ.out.mono ?_
 rintro e w1 ⟨rfl,hx⟩
 have HX:=zH (hx.trans (ext_bytes w1 5 ⟨l.toArray⟩))
 have hsz:(⟨l.toArray⟩:ByteArray).size=8:=by show l.toArray.size=8;simpa using hl
 have HC:=zH (fun j hj=>Lib.bytesWorld_cell w1 5 ⟨l.toArray⟩ j hj)
 have hcv:=Lib.run_convert_string_bytes (P:=Try.prog) w1 9 67 5 ⟨l.toArray⟩ (u:= .string) Try.underlying9 Try.underlying67 Try.underlying5
 rw [hsz]at HC hcv
 clear hx
 go_wp2_with fail
 generalize Lib.bytesWorld w1 5 ⟨l.toArray⟩=W at*
 generalize grownCap w1 8 0 5=cp at*
 go_loop [3,10] (fun v i=>∃k:Nat,k≤8∧i= .int .i64 k∧v= .int .u64 (valN l k)) (fun _ i=>8 - (intOf i).toNat)
 case atStart=>exact ⟨0,by omega,rfl,rfl⟩
 case round=>
  obtain ⟨k,hk,rfl,rfl⟩:=hrel
  by_cases hlt:k < 8
  rotate_left
  ·obtain rfl:k=8:=by omega
   go_wp2_with fail
   go_ret
   exact ⟨rfl,HX.out⟩
  have c0:=HC.out k hlt
  have hkl:k < l.length:=by omega
  have hg:l.getD k 0=l[k]:=by rw [List.getD_eq_getElem?_getD,List.getElem?_eq_getElem hkl];rfl
  have HV:=zH (word_val (c:=l[k].toNat) (valN_lt l k) hlt l[k].toNat_lt)
  have HN:Hid (valN l (k+1)=valN l k+l[k].toNat*256 ^ k):=zH (by rw [valN,hg])
  clear hg
  go_wp2_with fail
  refine ⟨⟨k+1,by omega,by go_num,by rw [HV.out,HN.out]⟩,by simp [intOf];omega⟩
theorem valN_valB {l:List UInt8} (hl:l.length=8):(valN l 8:Int)=valB l:=by
 match l,hl with
 | [a,b,c,d,e,f,g,h],_=>
  simp only [valN,valB,List.foldr_cons,List.foldr_nil,List.getD_cons_zero,List.getD_cons_succ]
  omega
theorem word_some {X:Nat} {s:ByteArray} {bad:Bool} {V:World} {n:Int} {r:List UInt8} (h:RdAt V X s bad) (hs:s.size≤1000000) (hn:wordO s.data.toList=some (n,r)):Calls Try.prog 22 #[.pointer (some ⟨X,0,none⟩)] V fun e w'=>e= .returned (.int .u64 n)∧Ext (V.setCell ⟨X,0,none⟩ (.string ⟨r.toArray⟩)) w':=by
 unfold wordO takeO at hn
 by_cases h8:s.data.toList.length < 8
 ·rw [if_pos h8]at hn
  cases hn
 rw [if_neg h8,Option.map_some]at hn
 simp only [Option.some.injEq,Prod.mk.injEq]at hn
 obtain ⟨rfl,rfl⟩:=hn
 rw [ba_len]at h8
 have hl:(s.data.toList.take 8).length=8:=by rw [List.length_take,ba_len];omega
 rw [←valN_valB hl]
 exact word_run (bad:=bad) (s:=s) hl (zH ((take_some h hs (n:=8) (by omega)).mono fun e w' hh=>⟨hh.1,by rw [hh.2];exact Ext.refl _⟩))
theorem word_none {X:Nat} {s:ByteArray} {bad:Bool} {V:World} (h:RdAt V X s bad) (hn:s.size < 8):Calls Try.prog 22 #[.pointer (some ⟨X,0,none⟩)] V fun e w'=>e= .returned (.int .u64 (valN (List.replicate 8 0) 8))∧Ext (V.setCell ⟨X,1,none⟩ (.bool true)) w':=
 word_run (bad:=bad) (s:=s) (by simp) (zH (take_none h (by omega) (n:=8) hn (by omega)))
def Stq {α:Type} (st:Option (List UInt8)) (p:List UInt8→Option (α×List UInt8)) (v:α) (st':Option (List UInt8)):Prop:=st.bind p=st'.map fun r=>(v,r)
theorem Stq.bind {α γ:Type} {st st':Option (List UInt8)} {p:List UInt8→Option (α×List UInt8)} {v:α} (h:Stq st p v st') (K:α→List UInt8→Option γ):(st.bind fun r=>(p r).bind fun x=>K x.1 x.2)=st'.bind (K v):=by
 rw [←Option.bind_assoc,h]
 cases st' <;>rfl
theorem Stq.no {α:Type} {p:List UInt8→Option (α×List UInt8)} {v:α} {st:Option (List UInt8)} {l:List UInt8} {b:Bool} (hst:st=if b then none else some l) (h:p l=none):Stq st p v none:=by
 subst hst
 cases b
 ·exact h
 ·rfl
theorem Stq.yes {α:Type} {p:List UInt8→Option (α×List UInt8)} {v:α} {st:Option (List UInt8)} {l r:List UInt8} {b:Bool} (hst:st=if b then none else some l) (h:p l=some (v,r)):Stq st p v (if b then none else some r):=by
 subst hst
 cases b
 ·exact h
 ·rfl
structure RdS (ty:TypeId) (w:World) (X N:Nat) (st:Option (List UInt8)) (s:ByteArray) (b:Bool):Prop where
 blk:w.heap[X]?=some (.cells #[.string s,.bool b] ty (0,0))
 st:st=if b then none else some s.data.toList
 sz:s.size≤N
section
variable {ty : TypeId} {V w' : World} {X N : Nat} {st : Option (List UInt8)} {s : ByteArray} {b : Bool}
theorem RdS.ext (h:RdS ty V X N st s b) (hx:Ext V w'):RdS ty w' X N st s b:=⟨(hx.block (lt_of_heap h.blk)).trans h.blk,h.st,h.sz⟩
theorem RdS.other (h:RdS ty V X N st s b) {k:Option Nat} (hg:V.grownBy w' k) (hk:some X≠k):RdS ty w' X N st s b:=⟨(hg.block X (lt_of_heap h.blk) hk).trans h.blk,h.st,h.sz⟩
theorem RdS.none (h:RdS ty V X N st s b) (hx:Ext (V.setCell ⟨X,1,Option.none⟩ (.bool true)) w'):RdS ty w' X N Option.none s true∧Only X V w':=by
 have hb:=blk_set h.blk (i:=1) (.bool true)
 exact ⟨⟨(hx.block (lt_of_heap hb)).trans hb,rfl,h.sz⟩,((Only.refl X V).setCell 1 _).trans (Only.of_ext hx)⟩
theorem RdS.some (h:RdS ty V X N st s b) {r:List UInt8} (hr:r.length≤s.data.toList.length) (hx:Ext (V.setCell ⟨X,0,Option.none⟩ (.string ⟨r.toArray⟩)) w'):RdS ty w' X N (if b then Option.none else Option.some r) ⟨r.toArray⟩ b∧Only X V w':=by
 have hb:=blk_set h.blk (i:=0) (.string ⟨r.toArray⟩)
 have hs:(⟨r.toArray⟩:ByteArray).size=r.length:=by show r.toArray.size=_;simp
 rw [ba_len]at hr
 exact ⟨⟨(hx.block (lt_of_heap hb)).trans hb,rfl,by rw [hs];have:=h.sz;omega⟩,((Only.refl X V).setCell 0 _).trans (Only.of_ext hx)⟩
end
theorem numO_len {most n:Int} {l r:List UInt8} (h:numO most l=some (n,r)):r.length≤l.length∧0≤n∧n≤most:=by
 unfold numO at h
 split at h
 ·cases h
 ·simp only [Option.some.injEq,Prod.mk.injEq]at h
  obtain ⟨rfl,rfl⟩:=h
  refine ⟨by rw [List.length_drop];omega,by omega,by omega⟩
theorem valB_lt:∀l:List UInt8,0≤valB l∧valB l < 256 ^ l.length
 | []=>by simp [valB]
 | c::l=>by
  have h:=valB_lt l
  have hc:=c.toNat_lt
  have e:valB (c::l)=c.toNat+256*valB l:=rfl
  rw [e,List.length_cons,Int.pow_succ]
  omega
theorem wordO_len {n:Int} {l r:List UInt8} (h:wordO l=some (n,r)):r.length≤l.length∧0≤n∧n < 18446744073709551616:=by
 unfold wordO takeO at h
 split at h
 ·cases h
 ·rename_i hl
  rw [Option.map_some]at h
  simp only [Option.some.injEq,Prod.mk.injEq]at h
  obtain ⟨rfl,rfl⟩:=h
  have hv:=valB_lt (l.take 8)
  rw [show (l.take 8).length=8 by rw [List.length_take];omega]at hv
  exact ⟨by rw [List.length_drop];omega,hv.1,hv.2⟩
section
variable {V : World} {X N : Nat} {st : Option (List UInt8)} {s : ByteArray} {b : Bool}
theorem rnumber_any (hN:N≤1000000) (h:RdS 49 V X N st s b) (most:Int) (hm:0≤most):Calls Try.prog 19 #[.pointer (some ⟨X,0,none⟩),.int .i64 most] V fun e w'=>∃(n:Nat),∃st' s' b',e= .returned (.int .i64 n)∧(n:Int)≤most∧RdS 49 w' X N st' s' b'∧Stq st (numO most) (n:Int) st'∧Only X V w':=by
 have hs:s.size≤1000000:=Nat.le_trans h.sz hN
 rcases hn:numO most s.data.toList with _ | ⟨n,r⟩
 ·refine (number_none h.blk hs hn).mono ?_
  rintro e w' ⟨rfl,rfl⟩
  obtain ⟨h1,h2⟩:=h.none (Ext.refl _)
  exact ⟨0,none,s,true,rfl,hm,h1,Stq.no h.st hn,h2⟩
 ·obtain ⟨hl,h0,h1⟩:=numO_len hn
  obtain ⟨m,rfl⟩:=Int.eq_ofNat_of_zero_le h0
  refine (number_some h.blk hs hn).mono ?_
  rintro e w' ⟨rfl,rfl⟩
  obtain ⟨h1,h2⟩:=h.some hl (Ext.refl _)
  exact ⟨m,_,_,_,rfl,by assumption,h1,Stq.yes h.st hn,h2⟩
theorem rword_any (hN:N≤1000000) (h:RdS 49 V X N st s b):Calls Try.prog 22 #[.pointer (some ⟨X,0,none⟩)] V fun e w'=>∃(n:Nat),∃st' s' b',e= .returned (.int .u64 n)∧n < 18446744073709551616∧RdS 49 w' X N st' s' b'∧Stq st wordO (n:Int) st'∧Only X V w':=by
 have hs:s.size≤1000000:=Nat.le_trans h.sz hN
 rcases hn:wordO s.data.toList with _ | ⟨n,r⟩
 ·have h8 : s.size < 8 := by
   unfold wordO takeO at hn
   split at hn
   ·rename_i h8
    rwa [ba_len]at h8
   ·cases hn
  refine (word_none h.blk h8).mono ?_
  rintro e w' ⟨rfl,hx⟩
  obtain ⟨h1,h2⟩:=h.none hx
  exact ⟨_,none,s,true,rfl,by decide,h1,Stq.no h.st hn,h2⟩
 ·obtain ⟨hl,h0,h1⟩:=wordO_len hn
  obtain ⟨m,rfl⟩:=Int.eq_ofNat_of_zero_le h0
  refine (word_some h.blk hs hn).mono ?_
  rintro e w' ⟨rfl,hx⟩
  obtain ⟨h1,h2⟩:=h.some hl hx
  exact ⟨m,_,_,_,rfl,by omega,h1,Stq.yes h.st hn,h2⟩
theorem rtruth_any (hN:N≤1000000) (h:RdS 49 V X N st s b):Calls Try.prog 20 #[.pointer (some ⟨X,0,none⟩)] V fun e w'=>∃(n:Bool),∃st' s' b',e= .returned (.bool n)∧RdS 49 w' X N st' s' b'∧Stq st (truO fun c=>c !=0) n st'∧Only X V w':=by
 have hs:s.size≤1000000:=Nat.le_trans h.sz hN
 rcases hn:s.data.toList with _ | ⟨c,r⟩
 ·have h0:s.size=0:=by rw [←ba_len,hn];rfl
  refine (truth_none h.blk h0).mono ?_
  rintro e w' ⟨rfl,hx⟩
  obtain ⟨h1,h2⟩:=h.none hx
  exact ⟨false,none,s,true,rfl,h1,Stq.no h.st (by rw [hn];rfl),h2⟩
 ·refine (truth_some h.blk hs hn).mono ?_
  rintro e w' ⟨rfl,rfl⟩
  obtain ⟨h1,h2⟩:=h.some (r:=r) (by rw [hn];simp) (Ext.refl _)
  exact ⟨_,_,_,_,rfl,h1,Stq.yes h.st (by rw [hn];simp [truO,takeO]),h2⟩
end
theorem many_step {α:Type} {f:List UInt8→Option (α×List UInt8)} {st st':Option (List UInt8)} {v:α} {k:Nat} {l:List α} (h:Stq st f v st'):
  (st.bind fun r=>(manyO f (k+1) r).map fun y=>(l++y.1,y.2))=st'.bind fun r=>(manyO f k r).map fun y=>((l++ [v])++y.1,y.2):=by
 have h2:=h.bind fun v r=>(manyO f k r).map fun y=>((l++ [v])++y.1,y.2)
 rw [←h2]
 congr 1
 funext r
 show ((f r).bind fun x=>(manyO f k x.2).map fun y=>(x.1::y.1,y.2)).map _=_
 cases f r with
 | none=>rfl
 | some x=>
  simp only [Option.bind_some,Option.map_map]
  congr 1
  funext y
  simp
theorem many_end {α:Type} {f:List UInt8→Option (α×List UInt8)} {st:Option (List UInt8)} {l:List α}:(st.bind fun r=>(manyO f 0 r).map fun y=>(l++y.1,y.2))=st.map fun r=>(l,r):=by
 cases st with
 | none=>rfl
 | some r=>simp [manyO]
theorem Stq.list {α:Type} {f:List UInt8→Option (α×List UInt8)} {st st1 st':Option (List UInt8)} {most:Int} {n:Nat} {l:List α} (h:Stq st (numO most) (n:Int) st1) (h2:(st1.bind fun r=>(manyO f n r).map fun y=>([]++y.1,y.2))=st'.map fun r=>(l,r)):Stq st (listO most f) l st':=by
 have h3:=h.bind fun v r=>(manyO f v.toNat r)
 unfold Stq
 rw [←h2]
 refine Eq.trans ?_ (h3.trans ?_)
 ·rfl
 ·congr 1
  funext r
  rw [Int.toNat_natCast]
  cases manyO f n r with
  | none=>rfl
  | some y=>simp
theorem Stq.span {st st1 st2:Option (List UInt8)} {x y:Int} (h1:Stq st (numO 1099511627776) x st1) (h2:Stq st1 (numO 1099511627776) y st2):Stq st spanO (x,y) st2:=by
 have h3:=h1.bind fun v r=>(numO 1099511627776 r).map fun y=>((v,y.1),y.2)
 have h4:=h2.bind fun v r=>some ((x,v),r)
 unfold Stq
 refine Eq.trans h3 ?_
 refine Eq.trans ?_ (h4.trans ?_)
 ·congr 1
  funext r
  cases numO 1099511627776 r <;>rfl
 ·cases st2 <;>rfl
theorem Only.lift {X:Nat} {W w w':World} (h:Only X W w) {row:Option Nat} (hg:w.grownBy w' row) (hr:∀k,row=some k→W.heap.size≤k):Only X W w':=
 ⟨hg.os.trans h.os,hg.tape.trans h.tape,hg.output.trans h.output,Nat.le_trans h.size hg.size,fun i hi hne=>(hg.block i (Nat.lt_of_lt_of_le hi h.size) (fun e=>by have:=hr i e.symm;omega)).trans (h.block i hi hne)⟩
def RetSp (V:World) (X N:Nat) (st:Option (List UInt8)) (e:Ending) (w':World):Prop:=∃A cap,∃(l:List (Int×Int)),∃st' s' b',e= .returned (.slice A l.length cap)∧l.length≤32768∧(∀x∈l,0≤x.1∧x.1≤1099511627776∧0≤x.2∧x.2≤1099511627776)∧Own 62 2 spanC w' V.heap.size (.slice A l.length cap) l∧RdS 49 w' X N st' s' b'∧Stq st (listO 32768 spanO) l st'∧Only X V w'
theorem rspans_any {V:World} {X N:Nat} {st:Option (List UInt8)} {s:ByteArray} {b:Bool} (hN:N≤1000000) (h:RdS 49 V X N st s b):Calls Try.prog 21 #[.pointer (some ⟨X,0,none⟩)] V (RetSp V X N st):=by
 have HR0:=zH h
 clear h
 go_enter Try.func21,Try.ntmps21
 go_wp2_with fail
 refine (rnumber_any hN HR0.out 32768 (by decide)).mono ?_
 rintro e w1 ⟨n,st1,s1,b1,rfl,hn,hr,hs,ho⟩
 have HR1:=zH hr
 have HS1:=zH hs
 have HO1:=zH ho
 clear hr hs ho HR0
 go_wp2_with fail
 go_loopw [3,4] (fun v c wr=>∃(k:Nat) (A:Option Addr) (cap:Nat) (m:Nat) (l:List (Int×Int)) (st':Option (List UInt8)) (s':ByteArray) (b':Bool),c= .int .i64 k∧v= .slice A m cap∧Hid (l.length=m)∧k+m=n∧Hid (∀x∈l,0≤x.1∧x.1≤1099511627776∧0≤x.2∧x.2≤1099511627776)∧Hid (Own 62 2 spanC wr V.heap.size (.slice A m cap) l)∧Hid (RdS 49 wr X N st' s' b')∧Hid (Only X V wr)∧Hid ((st1.bind fun r=>(manyO spanO n r).map fun y=>([]++y.1,y.2))=st'.bind fun r=>(manyO spanO k r).map fun y=>(l++y.1,y.2))) (fun _ c _=>(intOf c).toNat)
 case atStart=>exact ⟨n,none,0,0,[],st1,s1,b1,rfl,rfl,zH rfl,by omega,zH (by simp),zH (Own.nil _ _ _ _ _),HR1,HO1,zH rfl⟩
 case round=>
  obtain ⟨k,A,cap,m,l,st',s',b',rfl,rfl,HM,hkm,HB,HW,HR,HO,HE⟩:=hrel
  have g0:=(cells_of HR.out.blk).1
  have l0:=lt_of_heap HR.out.blk
  by_cases hq:k=0∨b'=true
  ·have HQ : Hid (Stq st (listO 32768 spanO) l st') := zH (Stq.list HS1.out (by
    rw [HE.out]
    rcases hq with rfl | rfl
    ·exact many_end
    ·rw [HR.out.st];rfl))
   clear HE
   rcases Nat.eq_zero_or_pos k with rfl | hk
   ·go_wp2_with fail
    go_ret
    exact ⟨A,cap,l,st',s',b',by rw [HM.out];rfl,by rw [HM.out];omega,HB.out,by rw [HM.out];exact HW.out,HR.out,HQ.out,HO.out⟩
   ·obtain rfl:b'=true:=by rcases hq with h | h;exact absurd h (by omega);exact h
    have G0:decide ((0:Int) < (k:Int))=true:=by rw [decide_eq_true_eq];omega
    go_wp2_with fail
    go_ret
    exact ⟨A,cap,l,st',s',true,by rw [HM.out];rfl,by rw [HM.out];omega,HB.out,by rw [HM.out];exact HW.out,HR.out,HQ.out,HO.out⟩
  obtain ⟨p,rfl⟩:∃p,k=p+1:=⟨k - 1,by omega⟩
  obtain rfl:b'=false:=by cases b' <;>simp_all
  have G0:decide ((0:Int) < ((p+1:Nat):Int))=true:=by rw [decide_eq_true_eq];omega
  go_wp2_with fail
  refine (rnumber_any hN HR.out 1099511627776 (by decide)).mono ?_
  rintro e w2 ⟨x,st2,s2,b2,rfl,hx,hr2,hs2,ho2⟩
  have hne2:some X≠(Value.slice A m cap).ownBlock:=HW.out.ne_block HR.out.blk (by decide)
  have HW2:Hid (Own 62 2 spanC w2 V.heap.size (.slice A m cap) l):=zH (HW.out.kept ho2 (.inr (Ne.symm hne2)))
  have HO2:=zH (Only.trans HO.out ho2)
  have HS2:=zH hs2
  have HLW:Hid (V.heap.size≤w2.heap.size):=zH HO2.out.size
  have hxE:=(Ext.refl w2).alloc (.cells #[.int .i64 x,.int .i64 0] 62)
  have HbE:=zH (blk_new w2 #[.int .i64 x,.int .i64 0] 62 w2.heap.size rfl)
  have HR2:=zH (hr2.ext hxE)
  have HXne:Hid (w2.heap.size≠X):=zH (by have:=lt_of_heap hr2.blk;omega)
  clear hr2 hs2 ho2 hne2 g0 l0 HR HO HW hxE
  go_wp2_with fail
  refine (rnumber_any hN HR2.out 1099511627776 (by decide)).mono ?_
  rintro e w3 ⟨y,st3,s3,b3,rfl,hy,hr3,hs3,ho3⟩
  have hb3:=(ho3.block w2.heap.size (by simp) (by have:=HXne.out;simpa using this)).trans HbE.out
  have hneX:some X≠(Value.slice A m cap).ownBlock:=(HW2.out.ext ((Ext.refl w2).alloc (.cells #[.int .i64 x,.int .i64 0] 62))).ne_block HR2.out.blk (by decide)
  have HW3:Own 62 2 spanC w3 V.heap.size (.slice A m cap) l:=(HW2.out.ext ((Ext.refl w2).alloc (.cells #[.int .i64 x,.int .i64 0] 62))).kept ho3 (.inr (Ne.symm hneX))
  have hgE:w3.grownBy (w3.setCell ⟨w2.heap.size,1,none⟩ (.int .i64 y)) (some w2.heap.size):=(Only.refl w2.heap.size w3).setCell 1 _
  have HW4:Hid (Own 62 2 spanC (w3.setCell ⟨w2.heap.size,1,none⟩ (.int .i64 y)) V.heap.size (.slice A m cap) l):=zH (HW3.kept hgE (.inr (fun e=>by have:=(World.ownsRow.lt HW2.out _ e).2;omega)))
  have HO4:Hid (Only X V (w3.setCell ⟨w2.heap.size,1,none⟩ (.int .i64 y))):=zH (((Only.trans HO2.out (Only.of_ext ((Ext.refl w2).alloc _))).trans ho3).lift hgE (fun k e=>by have:=HLW.out;simp only [Option.some.injEq]at e;omega))
  have HR4:Hid (RdS 49 (w3.setCell ⟨w2.heap.size,1,none⟩ (.int .i64 y)) X N st3 s3 b3):=zH (hr3.other hgE (by have:=HXne.out;simpa using Ne.symm this))
  have HE4:=zH (many_step (k:=p) (l:=l) (Stq.span HS2.out hs3))
  have HLE4:Hid (V.heap.size≤(w3.setCell ⟨w2.heap.size,1,none⟩ (.int .i64 y)).heap.size):=zH HO4.out.size
  have g3:=(cells_of hb3).1
  have f3:=(cells_of hb3).2
  have j3:=lt_of_heap hb3
  have g4:=(cells_of (blk_set hb3 (i:=1) (.int .i64 y))).1
  have j4:=lt_of_heap (blk_set hb3 (i:=1) (.int .i64 y))
  have HMl:Hid (l.length+1=m+1):=zH (by rw [HM.out])
  clear hb3 hneX HW3 hgE hr3 hs3 ho3 HR2 HbE
  go_wp2_with (at_builtin;refine wpList_app_lit rfl (.tmp 25) (.tmp 27) 25 rfl spanInfo spanCells rfl HW4.out [((x:Int),(y:Int))] 1 _ rfl (m+1) 1 HMl.out rfl _ rfl (by first | rfl | simp) (by omega) (by unfold maxLen;omega) HLE4.out ?_;intro A6 c6 w6 ho6 hg6 ht6;have HW6:=zH ho6;have HO6:=zH ((Only.trans HO4.out (Only.of_ext ((Ext.refl _).alloc _))).lift hg6 (fun k e=>(World.ownsRow.lt HW4.out _ e).1));have HR6:=zH ((HR4.out.ext ((Ext.refl _).alloc _)).other hg6 (HW4.out.ne_block HR4.out.blk (by decide)));clear ho6 hg6 ht6)
  go_roundw
  case rel=>exact ⟨p,A6,c6,m+1,l++ [((x:Int),(y:Int))],st3,s3,b3,by go_num,rfl,zH (by rw [List.length_append];exact HMl.out),by omega,zH (fun z hz=>by rcases List.mem_append.1 hz with hz | hz;exact HB.out z hz;simp only [List.mem_singleton]at hz;subst hz;simp only;omega),HW6,HR6,HO6,zH (HE.out.trans HE4.out)⟩
  case measure=>simp [intOf]
theorem run_len {p:Int→Bool}:∀(xs:List Int) (k:Nat),k≤xs.length→(∀j,j < k→p (xs.getD j 0)=true)→(k < xs.length→p (xs.getD k 0)=false)→(xs.takeWhile p).length=k
 | [],k,h,_,_=>by simp at h;subst h;rfl
 | x::xs,0,_,_,h=>by
  have:=h (by simp)
  rw [List.getD_cons_zero]at this
  rw [List.takeWhile_cons,this]
  rfl
 | x::xs,k+1,h,h1,h2=>by
  have h0:=h1 0 (by omega)
  rw [List.getD_cons_zero]at h0
  rw [List.takeWhile_cons,h0]
  simp only [if_true,List.length_cons]at h h2⊢
  rw [run_len xs k (by omega) (fun j hj=>by have:=h1 (j+1) (by omega);rwa [List.getD_cons_succ]at this) (fun hk=>by have:=h2 (by omega);rwa [List.getD_cons_succ]at this)]
def runZ (z:Bool) (xs:List Int):Nat:=(xs.takeWhile fun x=>(x==0)==z).length
theorem run_any (A:Option Addr) (cap:Nat) (xs:List Int) (z:Bool) (V:World) (hl:RowAt 1 u64C V A xs) (hlen:xs.length≤1000000):Calls Try.prog 40 #[.slice A xs.length cap,.bool z] V fun e w'=>e= .returned (.int .i64 (runZ z xs))∧w'=V:=by
 go_enter Try.func40,Try.ntmps40
 go_wp2_with fail
 go_loop [5] (fun i=>∃k:Nat,k≤xs.length∧i= .int .i64 k∧Hid (∀j,j < k→((xs.getD j 0==0)==z)=true)) (fun i=>xs.length - (intOf i).toNat)
 case atStart=>exact ⟨0,by omega,rfl,zH (by omega)⟩
 case round=>
  obtain ⟨k,hk,rfl,hq⟩:=hrel
  by_cases hlt:k < xs.length
  rotate_left
  ·obtain rfl:k=xs.length:=by omega
   have HR:Hid (runZ z xs=xs.length):=zH (run_len xs _ (Nat.le_refl _) hq.out (fun h=>absurd h (by omega)))
   clear hq
   go_wp2_with fail
   go_ret
   exact ⟨by rw [HR.out];rfl,rfl⟩
  obtain ⟨b,off,rfl,hc⟩:=hl.get (by omega)
  have c0:=hc k (xs.getD k 0) (by rw [List.getD_eq_getElem?_getD,List.getElem?_eq_getElem hlt];rfl) 0 _ rfl
  simp only [Nat.mul_one,Nat.add_zero]at c0
  obtain ⟨x,hx⟩:∃x,xs.getD k 0=x:=⟨_,rfl⟩
  rw [hx]at c0
  by_cases hz:((x==0)==z)=true
  ·have HS : Hid (∀ j, j < k + 1 → ((xs.getD j 0 == 0) == z) = true) := zH (fun j hj => by
    by_cases e:j=k
    ·rw [e,hx];exact hz
    ·exact hq.out j (by omega))
   clear hc hx hq
   go_wp2_with fail
   go_round
   case rel=>exact ⟨k+1,by omega,by go_num,HS⟩
   case measure=>simp [intOf];omega
  have hz2:((x==0)==z)=false:=by simpa using hz
  have HR:Hid (runZ z xs=k):=zH (run_len xs _ hk hq.out (fun _=>by rw [hx];exact hz2))
  clear hc hx hq hz
  go_wp2_with fail
  go_ret
  exact ⟨by rw [HR.out];rfl,rfl⟩
end Go.Proofs.Ytemmjmplhknemaa
