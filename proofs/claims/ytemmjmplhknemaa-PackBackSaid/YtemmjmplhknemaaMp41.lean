/- Merged by program (merge.py) out of: PkT, PkU. -/
import Derived.Test.YtemmjmplhknemaaMp38
import Derived.Test.YtemmjmplhknemaaMp40
set_option linter.unusedSimpArgs false
set_option linter.unusedVariables false
set_option maxRecDepth 100000
set_option maxHeartbeats 16000000
namespace Go.Proofs.Ytemmjmplhknemaa
open Go.RowKit Go.Shelf
theorem rep_flat (m:Nat):(List.replicate m (0:Int)).flatMap u64C=List.replicate m (Value.int .u64 0):=by
 induction m with
 | zero=>rfl
 | succ m ih=>rw [List.replicate_succ,List.flatMap_cons,ih,List.replicate_succ];rfl
theorem zeros_list (m:Nat):(Builtin.zeroCells (Value.int .u64 0).cells m).toList=(List.replicate m (0:Int)).flatMap u64C:=by
 rw [rep_flat]
 simp only [Builtin.zeroCells,show (Value.int IntKind.u64 0).cells= #[.int .u64 0]from rfl]
 simp
 refine List.eq_replicate_iff.2 ⟨by simp,fun x hx=> ?_⟩
 obtain ⟨i, -,rfl⟩:=List.mem_map.1 hx
 rw [Nat.mod_one]
 rfl
theorem own_cap0 {α:Type} {e:TypeId} {n:Nat} {f:α→List Value} {w:World} {B:Nat} {A:Option Addr} {cap:Nat} {xs:List α} (h:Own e n f w B (.slice A xs.length cap) xs):xs.length≤cap:=by
 rcases h.2 with ⟨hv,h0⟩ | ⟨g,cap',cur,hv,_,_,hc,hcm,_⟩
 ·omega
 ·injection hv with _ _ hc'
  subst hc'
  exact hc
theorem run_app_z {w:World} {B:Nat} {A:Option Addr} {n cap:Nat} {xs:List Int} (hn:xs.length=n) (hown:Own 54 1 u64C w B (.slice A n cap) xs) (ty:TypeId) (m:Nat) (hm:n+m≤1000000) (hB:B≤w.heap.size):
  ∃A2 cap2 w',(Builtin.append_ #[24,3] ty #[.slice A n cap,.int .i64 m]).run Try.prog w= .ok (.slice A2 (n+m) cap2) w'∧Own 54 1 u64C w' B (.slice A2 (n+m) cap2) (xs++List.replicate m 0)∧w.grownBy w' (Value.slice A n cap).ownBlock:=by
 obtain ⟨i,hi,hz0,hz1,hz2⟩:=info_parts u64Info0
 subst hn
 rcases Nat.eq_zero_or_pos m with rfl | h0
 ·refine ⟨A,cap,w,?_,by simpa using hown,World.grownBy.refl _ _⟩
  have hc:=own_cap0 hown
  simp [Builtin.append_,run_underlying Try.underlying24,run_underlying Try.underlying3,sizeOf,typeInfo,zeroValue,hi,hz0,asInt,asIntOf,hz1,hz2,hc,show IntKind.i64.wrap 0=0 from rfl]
  cases A <;>simp [storeCells]
 ·cases A with
  | none=>
   obtain ⟨rfl,rfl⟩:xs= []∧cap=0:=by
    rcases hown.2 with ⟨hv,h0⟩ | ⟨g,cap',cur,hv,_⟩
    ·injection hv with _ h1 h2
     exact ⟨List.eq_nil_of_length_eq_zero h0,h2⟩
    ·injection hv with h1
     cases h1
   have hr:=Go.Lib.run_append_nil_zeros (P:=Try.prog) w 24 3 ty 54 i (.int .u64 0) .i64 .i64 Try.underlying24 Try.underlying3 hi hz0 m h0 (by rw [hz1];decide) (by omega) (by rw [hz2];simp at hm;omega)
   simp only [List.length_nil,Nat.zero_add,List.nil_append]at hm⊢
   have hge:=grownCap_ge w m 0 54
   have hcm:grownCap w m 0 54≤maxLen:=grownCap_le_maxLen w m 0 54 (by unfold maxLen;omega)
   refine ⟨_,_,_,hr,⟨by rw [rep_flat];simp,.inr ⟨w.heap.size,_,_,by simp,hB,heap_alloc_new w.drew _,by simpa using hge,hcm,?_,?_⟩⟩,⟨rfl,rfl,rfl,by simp,fun k hk _=>heap_alloc_old w.drew _ hk⟩⟩
   ·simp only [Array.size_append,size_zeroCells,show (Value.int IntKind.u64 0).cells.size=1 from rfl]
    omega
   ·simp only [Array.toList_append,zeros_list]
    rw [List.take_left' (by rw [rep_flat];simp)]
  | some ad=>
   obtain ⟨g,rfl⟩:∃g,ad=⟨g,0,none⟩:=by
    rcases hown.2 with ⟨hv,h0⟩ | ⟨g,cap',cur,hv,_⟩
    ·injection hv with h1
     cases h1
    ·injection hv with h1
     injection h1 with h1
     exact ⟨g,h1⟩
   obtain ⟨g2,cap2,w',hr,h2,h3⟩:=run_append_own_zeros (P:=Try.prog) w B 24 3 ty 54 i (.int .u64 0) .i64 .i64 1 8 Try.underlying24 Try.underlying3 hi hz0 hz1 hz2 rfl (by decide) g xs.length cap (xs.flatMap u64C) hown m h0
    (by rw [zeros_list];intro u hu;obtain ⟨y,_,hy⟩:=List.mem_flatMap.1 hu;exact u64Cells.one y u hy) (by unfold maxLen;omega) (by omega) hB
   refine ⟨_,_,_,hr,?_,h3⟩
   unfold Own
   rw [List.length_append,List.flatMap_append,List.length_replicate,←zeros_list]
   exact h2
theorem wpList_app_z {ops:Array Oper} {rest:List Oper} {o:Oper} {a:Act} {w:World} {B:Nat} {A:Option Addr} {n cap:Nat} {xs:List Int} {Q:Exit→Act→World→Prop} (hgd:o.guard=none) (sl x:Operand)
  (ho:o.op= .call {callee:= .builtin .append,args:= #[sl,x],argTypes:= #[24,3]}) (hs:a.eval sl= .slice A n cap) (hn:xs.length=n) (hown:Own 54 1 u64C w B (.slice A n cap) xs) (m:Nat) (hx:a.eval x= .int .i64 m) (hm:n+m≤1000000) (hB:B≤w.heap.size) (r:Nat) (hr:n+m=r)
  (h:∀A2 cap2 w',Own 54 1 u64C w' B (.slice A2 r cap2) (xs++List.replicate m 0)→w.grownBy w' (Value.slice A n cap).ownBlock→wpList Try.prog ops Q rest (a.put o.dst (.slice A2 r cap2)) w'):wpList Try.prog ops Q (o::rest) a w:=by
 subst hr
 obtain ⟨A2,cap2,w',hr,h2,h3⟩:=run_app_z hn hown o.type m hm hB
 exact Lib.wpList_append_run w hgd sl x _ _ ho _ _ hs hx _ w' hr (h A2 cap2 w' h2 h3)
theorem Stq.or {α:Type} {st st':Option (List UInt8)} {p:List UInt8→Option (α×List UInt8)} {v:α} (h:Stq st p v st'):(st.bind p=none∧st'=none)∨∃r r',st=some r∧p r=some (v,r')∧st'=some r':=by
 unfold Stq at h
 cases st' with
 | none=>exact .inl ⟨h,rfl⟩
 | some r'=>
  cases st with
  | none=>cases h
  | some r=>exact .inr ⟨r,r',rfl,h,rfl⟩
theorem numO_lt {most n:Int} {l r:List UInt8} (h:numO most l=some (n,r)):r.length < l.length:=by
 unfold numO at h
 split at h
 ·cases h
 ·rename_i hc
  simp only [Option.some.injEq,Prod.mk.injEq]at h
  obtain ⟨-,rfl⟩:=h
  obtain ⟨m,k,e,hg⟩:∃n k e,getB l=(n,k,e):=⟨_,_,_,rfl⟩
  rw [hg]at hc⊢
  simp only at hc⊢
  have he:e=0:=by omega
  subst he
  have hk:=(getF_end [] l 0 0 m k hg).2
  rw [List.length_drop]
  omega
theorem many_len {α:Type} {f:List UInt8→Option (α×List UInt8)} (hf:∀r x r',f r=some (x,r')→r'.length≤r.length):∀(k:Nat) (r:List UInt8) (us:List α) (r':List UInt8),manyO f k r=some (us,r')→r'.length≤r.length
 | 0,r,us,r',h=>by
  simp only [manyO,Option.some.injEq,Prod.mk.injEq]at h
  rw [h.2];exact Nat.le_refl _
 | k+1,r,us,r',h=>by
  unfold manyO at h
  cases hr:f r with
  | none=>rw [hr]at h;cases h
  | some x=>
   rw [hr,Option.bind_some]at h
   cases hm:manyO f k x.2 with
   | none=>rw [hm]at h;cases h
   | some y=>
    rw [hm,Option.map_some]at h
    simp only [Option.some.injEq,Prod.mk.injEq]at h
    have h1:=hf r x.1 x.2 hr
    have h2:=many_len hf k x.2 y.1 y.2 hm
    rw [←h.2]
    omega
theorem wordsO_fuel:∀(f g n:Nat) (r:List UInt8),r.length < f→r.length < g→wordsO f n r=wordsO g n r
 | 0,_,_,r,h,_=>absurd h (by omega)
 | _+1,0,_,r,_,h=>absurd h (by omega)
 | f+1,g+1,n,r,hf,hg=>by
  unfold wordsO
  by_cases h0:n=0
  ·rw [if_pos h0,if_pos h0]
  rw [if_neg h0,if_neg h0]
  cases hr:numO n r with
  | none=>rfl
  | some z=>
   rw [Option.bind_some,Option.bind_some]
   have h1:=numO_lt (n:=z.1) (r:=z.2) hr
   by_cases hz:z.1.toNat=n
   ·rw [if_pos hz,if_pos hz]
   rw [if_neg hz,if_neg hz]
   cases hk:numO (n - z.1.toNat:Nat) z.2 with
   | none=>rfl
   | some k=>
    rw [Option.bind_some,Option.bind_some]
    have h2:=numO_lt (n:=k.1) (r:=k.2) hk
    cases hu:manyO wordO k.1.toNat k.2 with
    | none=>rfl
    | some u=>
     rw [Option.bind_some,Option.bind_some]
     have h3:=many_len (fun r x r' h=>(wordO_len h).1) _ _ u.1 u.2 hu
     rw [wordsO_fuel f g (n - z.1.toNat - k.1.toNat) u.2 (by omega) (by omega)]
section
variable {st st1 st2 st3 : Option (List UInt8)} {p z k : Nat} {l l2 : List Int}
theorem words_all (hp:p≠0) (h1:Stq st (numO p) (z:Int) st1) (hz:z=p):(st.bind fun r=>(wordsO (r.length+p+1) p r).map fun y=>(l++y.1,y.2))=st1.map fun r=>(l++List.replicate z 0,r):=by
 rcases h1.or with ⟨h,rfl⟩ | ⟨r,r1,rfl,h,rfl⟩
 ·cases st with
  | none=>rfl
  | some r=>
   have h:numO p r=none:=h
   rw [Option.bind_some,wordsO,if_neg hp,h]
   rfl
 ·rw [Option.bind_some,wordsO,if_neg hp,h,Option.bind_some]
  simp only [Int.toNat_natCast]
  rw [if_pos hz,hz]
  rfl
theorem words_more (hp:p≠0) (h1:Stq st (numO p) (z:Int) st1) (hz:z≠p) (h2:Stq st1 (numO (p - z:Nat)) (k:Int) st2) (h3:(st2.bind fun r=>(manyO wordO k r).map fun y=>(l++List.replicate z 0++y.1,y.2))=st3.map fun r=>(l2,r)):
  (st.bind fun r=>(wordsO (r.length+p+1) p r).map fun y=>(l++y.1,y.2))=st3.bind fun r=>(wordsO (r.length+(p - z - k)+1) (p - z - k) r).map fun y=>(l2++y.1,y.2):=by
 rcases h1.or with ⟨h,rfl⟩ | ⟨r,r1,rfl,h,rfl⟩
 ·have e2:st2=none:=by rcases h2.or with ⟨_,rfl⟩ | ⟨r,r1,hh,_⟩;rfl;cases hh
  subst e2
  have e3:st3=none:=by cases st3 with
   | none=>rfl
   | some _=>cases h3
  subst e3
  cases st with
  | none=>rfl
  | some r=>
   have h:numO p r=none:=h
   rw [Option.bind_some,wordsO,if_neg hp,h]
   rfl
 have hr1:=numO_lt h
 rw [Option.bind_some,wordsO,if_neg hp,h,Option.bind_some]
 simp only [Int.toNat_natCast]
 rw [if_neg hz]
 rcases h2.or with ⟨h,rfl⟩ | ⟨_,r2,hh,h,rfl⟩
 ·have h:numO (p - z:Nat) r1=none:=h
  have e3:st3=none:=by cases st3 with
   | none=>rfl
   | some _=>cases h3
  subst e3
  rw [h]
  rfl
 obtain rfl:r1=_:=by simpa using hh
 have hr2:=numO_lt h
 rw [h,Option.bind_some]
 simp only [Int.toNat_natCast]
 rw [Option.bind_some]at h3
 cases hu:manyO wordO k r2 with
 | none=>
  rw [hu]at h3
  have e3:st3=none:=by cases st3 with
   | none=>rfl
   | some _=>cases h3
  subst e3
  rfl
 | some u=>
  rw [hu,Option.map_some]at h3
  have hr3:=many_len (fun r x r' h=>(wordO_len h).1) _ _ u.1 u.2 hu
  cases st3 with
  | none=>cases h3
  | some r3=>
   rw [Option.map_some]at h3
   simp only [Option.some.injEq,Prod.mk.injEq]at h3
   obtain ⟨rfl,rfl⟩:=h3
   rw [Option.bind_some,Option.bind_some,wordsO_fuel (r.length+p) (u.2.length+(p - z - k)+1) _ _ (by omega) (by omega),Option.map_map]
   congr 1
   funext y
   simp
end
def rdM (X:Nat) (w:World):Nat:=match w.heap[X]? with
 | some (.cells cs _ _)=>(match (cs[0]?:Option Value),(cs[1]?:Option Value)with
  | some (Value.string s),some (Value.bool false)=>s.size+1
  | _,_=>0)
 | _=>0
theorem RdS.rdM {ty:TypeId} {w:World} {X N:Nat} {st:Option (List UInt8)} {s:ByteArray} {b:Bool} (h:RdS ty w X N st s b):rdM X w=if b then 0 else s.size+1:=by
 unfold Go.Proofs.Ytemmjmplhknemaa.rdM
 rw [h.blk]
 cases b <;>rfl
theorem RdS.left {ty:TypeId} {w:World} {X N:Nat} {st:Option (List UInt8)} {s:ByteArray} {b:Bool} (h:RdS ty w X N st s b) {r:List UInt8} (hst:st=Option.some r):b=false∧s.size=r.length:=by
 have:=h.st
 rw [hst]at this
 cases b
 ·simp only [Bool.false_eq_true,if_false,Option.some.injEq]at this
  exact ⟨rfl,by rw [this,ba_len]⟩
 ·cases this
theorem words_fin {st st3:Option (List UInt8)} {n:Nat} {l3:List Int} (h:(st.bind fun r=>(wordsO (r.length+n+1) n r).map fun y=>([]++y.1,y.2))=st3.map fun r=>(l3,r)):Stq st (fun r=>wordsO (r.length+n+1) n r) l3 st3:=by
 unfold Stq
 rw [←h]
 congr 1
 funext r
 cases wordsO (r.length+n+1) n r with
 | none=>rfl
 | some y=>simp
def RetWo (V:World) (X N n:Nat) (st:Option (List UInt8)) (e:Ending) (w':World):Prop:=∃A cap,∃(l:List Int),∃st' s' b',e= .returned (.slice A l.length cap)∧l.length≤n∧(∀z∈l,0≤z∧z < 18446744073709551616)∧Own 54 1 u64C w' V.heap.size (.slice A l.length cap) l∧RdS 49 w' X N st' s' b'∧Stq st (fun r=>wordsO (r.length+n+1) n r) l st'∧Only X V w'
theorem rwords_any {V:World} {X N:Nat} {st:Option (List UInt8)} {s:ByteArray} {b:Bool} (hN:N≤100000) (h:RdS 49 V X N st s b) (n:Nat) (hn:n≤98304):Calls Try.prog 24 #[.pointer (some ⟨X,0,none⟩),.int .i64 n] V (RetWo V X N n st):=by
 have HR0:=zH h
 clear h
 go_enter Try.func24,Try.ntmps24
 go_wp2_with fail
 go_loopw [5] (fun v wr=>∃(A:Option Addr) (cap:Nat) (m p:Nat) (l:List Int) (st':Option (List UInt8)) (s':ByteArray) (b':Bool),v= .slice A m cap∧Hid (l.length=m)∧Hid (m+p=n)∧Hid (∀z∈l,0≤z∧z < 18446744073709551616)∧Hid (Own 54 1 u64C wr V.heap.size (.slice A m cap) l)∧Hid (RdS 49 wr X N st' s' b')∧Hid (Only X V wr)∧Hid ((st.bind fun r=>(wordsO (r.length+n+1) n r).map fun y=>([]++y.1,y.2))=st'.bind fun r=>(wordsO (r.length+p+1) p r).map fun y=>(l++y.1,y.2))) (fun _ wr=>rdM X wr)
 case atStart=>exact ⟨none,0,0,n,[],st,s,b,rfl,zH rfl,zH (by omega),zH (by simp),zH (Own.nil _ _ _ _ _),HR0,zH (Only.refl _ _),zH rfl⟩
 case round=>
  obtain ⟨A,cap,m,p,l,st',s',b',rfl,HM,HP,HB,HW,HR,HO,HE⟩:=hrel
  have g0:=(cells_of HR.out.blk).1
  have l0:=lt_of_heap HR.out.blk
  have hmp:=HP.out
  by_cases hq:p=0∨b'=true
  ·have HQ : Hid (Stq st (fun r => wordsO (r.length + n + 1) n r) l st') := zH (words_fin (by
    rw [HE.out]
    rcases hq with rfl | rfl
    ·cases st' with
     | none=>rfl
     | some r=>simp [wordsO]
    ·rw [HR.out.st];rfl))
   clear HE
   rcases Nat.eq_zero_or_pos p with rfl | hk
   ·have G0:decide ((m:Int) < (n:Int))=false:=by rw [decide_eq_false_iff_not];omega
    go_wp2_with fail
    go_ret
    exact ⟨A,cap,l,st',s',b',by rw [HM.out];rfl,by rw [HM.out];omega,HB.out,by rw [HM.out];exact HW.out,HR.out,HQ.out,HO.out⟩
   ·obtain rfl:b'=true:=by rcases hq with h | h;exact absurd h (by omega);exact h
    have G0:decide ((m:Int) < (n:Int))=true:=by rw [decide_eq_true_eq];omega
    go_wp2_with fail
    go_ret
    exact ⟨A,cap,l,st',s',true,by rw [HM.out];rfl,by rw [HM.out];omega,HB.out,by rw [HM.out];exact HW.out,HR.out,HQ.out,HO.out⟩
  obtain rfl:b'=false:=by cases b' <;>simp_all
  have hp0:p≠0:=fun e=>hq (.inl e)
  have G0:decide ((m:Int) < (n:Int))=true:=by rw [decide_eq_true_eq];omega
  have e1:(n:Int) - (m:Int)=(p:Int):=by omega
  clear hq hmp
  go_wp2_with fail
  refine (rnumber_any (by omega) HR.out (p:Int) (by omega)).mono ?_
  rintro e w1 ⟨z,st1,s1,b1,rfl,hz,hr1,hs1,ho1⟩
  have HSZ1:Hid (b1=false→s1.size < s'.size):=zH (fun hb=>by
   rcases hs1.or with ⟨_,h⟩ | ⟨r,r1,h1,h2,h3⟩
   ·have:=hr1.st
    rw [h,hb]at this
    cases this
   ·have h4:=numO_lt h2
    rw [(HR.out.left h1).2,(hr1.left h3).2]
    exact h4)
  have HW1:Hid (Own 54 1 u64C w1 V.heap.size (.slice A m cap) l):=zH (HW.out.kept ho1 (.inr (Ne.symm (HW.out.ne_block HR.out.blk (by decide)))))
  have HO1:=zH (Only.trans HO.out ho1)
  have HR1:=zH hr1
  have HS1:=zH hs1
  have HLE1:Hid (V.heap.size≤w1.heap.size):=zH HO1.out.size
  have hzp:z≤p:=by omega
  have hmz:m+z≤n:=by have:=HP.out;omega
  clear hz hr1 hs1 ho1 g0 l0 HO HW
  obtain ⟨mz,hmz0⟩:∃mz,m+z=mz:=⟨_,rfl⟩
  rw [hmz0]at hmz
  replace hmz0:=zH hmz0
  have HML:Hid ((l++List.replicate z 0).length=mz):=zH (by rw [List.length_append,List.length_replicate,HM.out,hmz0.out])
  have HBL:Hid (∀y∈l++List.replicate z 0,0≤y∧y < 18446744073709551616):=zH (fun y hy=>by
   rcases List.mem_append.1 hy with hy | hy
   ·exact HB.out y hy
   ·rw [(List.mem_replicate.1 hy).2];omega)
  by_cases hzz:z=p
  ·subst hzz
   have G1:((mz:Int)==(n:Int))=true:=by rw [beq_iff_eq];have:=HP.out;have:=hmz0.out;omega
   have HQ:=zH (words_fin (HE.out.trans (words_all hp0 HS1.out rfl)))
   go_wp2_with (at_builtin;refine wpList_app_z rfl (.tmp 18) (.tmp 24) rfl rfl HM.out HW1.out z rfl (by have:=hmz0.out;omega) HLE1.out mz hmz0.out ?_;intro A2 c2 w2 ho2 hg2;have HW2:=zH ho2;have HO2:=zH (HO1.out.lift hg2 (fun k e=>(World.ownsRow.lt HW1.out _ e).1));have HR2:=zH (HR1.out.other hg2 (HW1.out.ne_block HR1.out.blk (by decide)));clear ho2 hg2)
   go_ret
   exact ⟨A2,c2,_,st1,s1,b1,by rw [HML.out];rfl,by rw [HML.out];exact hmz,HBL.out,by rw [HML.out];exact HW2.out,HR2.out,HQ.out,HO2.out⟩
  have G1:((mz:Int)==(n:Int))=false:=by rw [beq_eq_false_iff_ne];have:=HP.out;have:=hmz0.out;omega
  replace hzz:=zH hzz
  have e2:(n:Int) - (mz:Int)=((p - z:Nat):Int):=by have:=HP.out;have:=hmz0.out;omega
  go_wp2_with (at_builtin;refine wpList_app_z rfl (.tmp 18) (.tmp 24) rfl rfl HM.out HW1.out z rfl (by have:=hmz0.out;omega) HLE1.out mz hmz0.out ?_;intro A2 c2 w2 ho2 hg2;have HW2:=zH ho2;have HO2:=zH (HO1.out.lift hg2 (fun k e=>(World.ownsRow.lt HW1.out _ e).1));have HR2:=zH (HR1.out.other hg2 (HW1.out.ne_block HR1.out.blk (by decide)));clear ho2 hg2)
  refine (rnumber_any (by omega) HR2.out ((p - z:Nat):Int) (by omega)).mono ?_
  rintro e w3 ⟨q,st3,s3,b3,rfl,hq,hr3,hs3,ho3⟩
  have HSZ3:Hid (b3=false→s3.size < s'.size):=zH (fun hb=>by
   rcases hs3.or with ⟨_,h⟩ | ⟨r,r1,h1,h2,h3⟩
   ·have:=hr3.st
    rw [h,hb]at this
    cases this
   ·have h4:=numO_lt h2
    have h5:=HSZ1.out (HR2.out.left h1).1
    have h6:=(HR2.out.left h1).2
    have h7:=(hr3.left h3).2
    omega)
  have HW3:Hid (Own 54 1 u64C w3 V.heap.size (.slice A2 mz c2) (l++List.replicate z 0)):=zH (HW2.out.kept ho3 (.inr (Ne.symm (HW2.out.ne_block HR2.out.blk (by decide)))))
  have HO3:=zH (Only.trans HO2.out ho3)
  have HR3:=zH hr3
  have HS3:=zH hs3
  have HQP:Hid (mz+q≤n):=zH (by have:=HP.out;have:=hmz0.out;omega)
  have HQQ:Hid (q≤p - z):=zH (by omega)
  clear hq hr3 hs3 ho3 HW2 HO2 HR2 HW1 HO1 HR1 HSZ1
  go_wp2_with fail
  go_loopw [5,6] (fun v c wx=>∃(j m4:Nat) (A4:Option Addr) (c4:Nat) (l4:List Int) (st4:Option (List UInt8)) (s4:ByteArray) (b4:Bool),c= .int .i64 j∧v= .slice A4 m4 c4∧Hid (l4.length=m4)∧Hid (m4+j=mz+q)∧Hid (∀z∈l4,0≤z∧z < 18446744073709551616)∧Hid (Own 54 1 u64C wx V.heap.size (.slice A4 m4 c4) l4)∧Hid (RdS 49 wx X N st4 s4 b4)∧Hid (Only X V wx)∧Hid ((st3.bind fun r=>(manyO wordO q r).map fun y=>(l++List.replicate z 0++y.1,y.2))=st4.bind fun r=>(manyO wordO j r).map fun y=>(l4++y.1,y.2))∧Hid (b4=false→s4.size < s'.size)) (fun _ c _=>(intOf c).toNat)
  case atStart=>exact ⟨q,mz,A2,c2,_,st3,s3,b3,rfl,rfl,HML,zH rfl,HBL,HW3,HR3,HO3,zH rfl,HSZ3⟩
  case round=>
   clear HW3 HR3 HO3
   obtain ⟨wo,rfl⟩:∃wo:World,wo=wr:=⟨_,rfl⟩
   obtain ⟨j,m4,A4,c4,l4,st4,s4,b4,rfl,rfl,HM4,HJ,HB4,HW4,HR4,HO4,HE4,HSZ4⟩:=hrel
   have g0:=(cells_of HR4.out.blk).1
   have l0:=lt_of_heap HR4.out.blk
   by_cases hq:j=0∨b4=true
   ·have HEN : Hid ((st.bind fun r => (wordsO (r.length + n + 1) n r).map fun y => ([] ++ y.1, y.2)) = st4.bind fun r => (wordsO (r.length + (n - m4) + 1) (n - m4) r).map fun y => (l4 ++ y.1, y.2)) := zH (by
     have hend:(st3.bind fun r=>(manyO wordO q r).map fun y=>(l++List.replicate z 0++y.1,y.2))=st4.map fun r=>(l4,r):=by
      rw [HE4.out]
      rcases hq with rfl | rfl
      ·exact many_end
      ·rw [HR4.out.st];rfl
     have h1:=HE.out.trans (words_more hp0 HS1.out hzz.out HS3.out hend)
     rw [h1]
     rcases hq with rfl | rfl
     ·have h2:=HJ.out
      have h3:=HP.out
      have h4:=hmz0.out
      rw [show p - z - q=n - m4 by omega]
     ·rw [HR4.out.st];rfl)
    have HP4:Hid (m4+(n - m4)=n):=zH (by have:=HJ.out;have:=HQP.out;omega)
    clear HE HE4
    rcases Nat.eq_zero_or_pos j with rfl | hk
    ·go_wp2_with fail
     go_roundw
     case rel=>exact ⟨A4,c4,m4,n - m4,l4,st4,s4,b4,rfl,HM4,HP4,HB4,HW4,HR4,HO4,HEN⟩
     case measure=>
      have h1:=HR.out.rdM
      have h2:=HR4.out.rdM
      have h3:=HSZ4.out
      rw [h1,h2]
      cases b4
      ·have:=h3 rfl
       simp
       omega
      ·simp
    ·obtain rfl:b4=true:=by rcases hq with h | h;exact absurd h (by omega);exact h
     have G3:decide ((0:Int) < (j:Int))=true:=by rw [decide_eq_true_eq];omega
     go_wp2_with fail
     go_roundw
     case rel=>exact ⟨A4,c4,m4,n - m4,l4,st4,s4,true,rfl,HM4,HP4,HB4,HW4,HR4,HO4,HEN⟩
     case measure=>
      have h1:=HR.out.rdM
      have h2:=HR4.out.rdM
      have h3:=HSZ4.out
      rw [h1,h2]
      simp
   obtain ⟨i,rfl⟩:∃i,j=i+1:=⟨j - 1,by omega⟩
   obtain rfl:b4=false:=by cases b4 <;>simp_all
   have G3:decide ((0:Int) < ((i+1:Nat):Int))=true:=by rw [decide_eq_true_eq];omega
   have hi:i≤98304:=by have:=HJ.out;have:=HQP.out;omega
   clear hq HE
   go_wp2_with fail
   refine (rword_any (by omega) HR4.out).mono ?_
   rintro e w5 ⟨x,st5,s5,b5,rfl,hx,hr5,hs5,ho5⟩
   have HSZ5:Hid (b5=false→s5.size < s'.size):=zH (fun hb=>by
    rcases hs5.or with ⟨_,h⟩ | ⟨r,r1,h1,h2,h3⟩
    ·have:=hr5.st
     rw [h,hb]at this
     cases this
    ·have h4:=(wordO_len h2).1
     have h5:=HSZ4.out (by first | rfl | trivial)
     have h6:=(HR4.out.left h1).2
     have h7:=(hr5.left h3).2
     omega)
   have HW5:Hid (Own 54 1 u64C w5 V.heap.size (.slice A4 m4 c4) l4):=zH (HW4.out.kept ho5 (.inr (Ne.symm (HW4.out.ne_block HR4.out.blk (by decide)))))
   have HO5:=zH (Only.trans HO4.out ho5)
   have HR5:=zH hr5
   have HLE5:Hid (V.heap.size≤w5.heap.size):=zH HO5.out.size
   have HE5:=zH (many_step (k:=i) (l:=l4) hs5)
   have HMl:Hid (l4.length+1=m4+1):=zH (by rw [HM4.out])
   have hm4:m4+1≤98304:=by have:=HJ.out;have:=HQP.out;omega
   clear hr5 hs5 ho5 HW4 HO4 HR4 g0 l0 HSZ4
   go_wp2_with (at_builtin;refine wpList_app_lit rfl (.tmp 47) (.tmp 50) 24 rfl u64Info u64Cells rfl HW5.out [(x:Int)] 1 _ rfl (m4+1) 1 HMl.out rfl _ rfl (by first | rfl | simp) (by omega) (by unfold maxLen;omega) HLE5.out ?_;intro A6 c6 w6 ho6 hg6 ht6;have HW6:=zH ho6;have HO6:=zH ((Only.trans HO5.out (Only.of_ext ((Ext.refl _).alloc _))).lift hg6 (fun k e=>(World.ownsRow.lt HW5.out _ e).1));have HR6:=zH ((HR5.out.ext ((Ext.refl _).alloc _)).other hg6 (HW5.out.ne_block HR5.out.blk (by decide)));clear ho6 hg6 ht6)
   go_roundw
   case rel=>exact ⟨i,m4+1,A6,c6,l4++ [(x:Int)],st5,s5,b5,by go_num,rfl,zH (by rw [List.length_append];exact HMl.out),zH (by have:=HJ.out;omega),zH (fun y hy=>by rcases List.mem_append.1 hy with hy | hy;exact HB4.out y hy;simp only [List.mem_singleton]at hy;subst hy;omega),HW6,HR6,HO6,zH (HE4.out.trans HE5.out),HSZ5⟩
   case measure=>simp [intOf]
end Go.Proofs.Ytemmjmplhknemaa
