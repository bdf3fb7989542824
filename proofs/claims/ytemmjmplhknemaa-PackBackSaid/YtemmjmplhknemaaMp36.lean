/- Merged by program (merge.py) out of: PkB, PkC. -/
import Derived.Laws.BytesArg
import Derived.Test.YtemmjmplhknemaaMp35
import Derived.Test.YtemmjmplhknemaaMp5
import Derived.Test.YtemmjmplhknemaaMp7
import Derived.Test.YtemmjmplhknemaaMp6
set_option linter.unusedSimpArgs false
set_option linter.unusedVariables false
set_option maxRecDepth 100000
set_option maxHeartbeats 16000000
namespace Go.Proofs.Ytemmjmplhknemaa
open Go.RowKit Go.Shelf
def byC (z:Int):List Value:= [.int .u8 z]
theorem byCells:Cells 1 byC:=⟨fun _=>rfl,fun x u h=>by simp [byC]at h;subst h;rfl⟩
theorem byInfo0:(Try.prog.info? 5).map (fun i=>(i.zero,i.size,i.bytes))=some (some (.int .u8 0),1,1):=by kernel_rfl
theorem byInfo:Info Try.prog 67 5 1 1:=
 ⟨Try.underlying67,by obtain ⟨i0,hi,hz0,hz1,hz2⟩:=info_parts byInfo0;exact ⟨i0,_,hi,hz0,hz1,hz2,rfl⟩,by decide⟩
def bzL (l:List UInt8):List Int:=l.map fun c=>(c.toNat:Int)
theorem bzL_str (l:List UInt8):strOfNums (bzL l)=⟨l.toArray⟩:=by
 unfold strOfNums bzL
 rw [List.map_map]
 congr 1
 refine congrArg List.toArray ((List.map_congr_left fun c _=> ?_).trans (List.map_id l))
 show UInt8.ofNat ((c.toNat:Int).toNat)=c
 simp
theorem own_str {w:World} {B:Nat} {A:Option Addr} {cap:Nat} {l:List UInt8} {n:Nat} (hn:n=l.length) (h:Own 5 1 byC w B (.slice A n cap) (bzL l)) (hne:l≠ []):
  ∀dst,Try.prog.underlying dst=some .string→(convert 67 dst (.slice A n cap)).run Try.prog w= .ok (.string ⟨l.toArray⟩) w:=by
 subst hn
 have hzl:(bzL l).length=l.length:=by simp [bzL]
 rw [←hzl]at h
 obtain ⟨b,off,rfl,hc⟩:=(own_row h byCells (by decide)).1.get (by
  rw [hzl]
  exact List.length_pos_iff.2 hne)
 intro dst hd
 have hz:=run_convert_bytes_arg (P:=Try.prog) w 67 5 Try.underlying67 Try.underlying5 b off l.length cap (bzL l) (by simp [bzL]) (fun i hi=>by
  have:=hc i ((bzL l).getD i 0) (by
   rw [List.getD_eq_getElem?_getD,List.getElem?_eq_getElem (by simpa [bzL]using hi)]
   rfl) 0 _ rfl
  simpa using this) dst hd
 rw [bzL_str]at hz
 exact hz
theorem pput_any (n:Int) (hn: -9223372036854775808≤n∧n < 9223372036854775808) (V:World):Calls Try.prog 11 #[.int .i64 n] V fun e w'=>e= .returned (.string ⟨(putB n).toArray⟩)∧Ext V w':=by
 by_cases h0:n < 0
 ·have e1:putB n= []:=by rw [putB,if_pos h0]
  rw [e1]
  have hx:=Ext.refl V
  go_enter Try.func11,Try.ntmps11
  go_wp2_with fail
  refine wp_loop_rounds 1 ?_
  rw [rounds_succ]
  go_wp2_with fail
  go_ret
  exact ⟨rfl,hx⟩
 obtain ⟨N,rfl⟩:=Int.eq_ofNat_of_zero_le (show 0≤n by omega)
 have hN:N < 9223372036854775808:=by omega
 have HP:Hid (putB (N:Int)=dgF 9 N):=zH (by rw [putB,if_neg (by omega)];rfl)
 rw [HP.out]
 obtain ⟨D,hD⟩:∃D,dgF 9 N=D:=⟨_,rfl⟩
 have HD:=zH hD
 rw [hD]
 clear hD hn h0 HP
 go_enter Try.func11,Try.ntmps11
 go_wp2_with fail
 go_loopw [0,3] (fun n v wr=>∃(m:Nat) (d:List UInt8) (A:Option Addr) (cap:Nat),n= .int .i64 m∧v= .slice A d.length cap∧d.length≤8∧m < 9223372036854775808∧Hid (m < 128 ^ (9 - d.length))∧Hid (d++dgF (9 - d.length) m=D)∧Hid (Own 5 1 byC wr V.heap.size (.slice A d.length cap) (bzL d))∧Hid (Ext V wr)) (fun n _ _=>(intOf n).toNat)
 case atStart=>exact ⟨N,[],none,0,rfl,rfl,by simp,hN,zH (by simpa using hN),zH HD.out,zH (Own.nil _ _ _ _ _),zH (Ext.refl _)⟩
 case round=>
  obtain ⟨m,d,A,cap,rfl,rfl,hd8,hm,hmp,hd,ho,hx⟩:=hrel
  have HLE:Hid (V.heap.size≤wr.heap.size):=zH hx.out.size
  by_cases hge:128≤m
  ·have g0:decide ((128:Int)≤(m:Int))=true:=by rw [decide_eq_true_eq];omega
   have hd7:d.length≤7:=by
    rcases Nat.lt_or_ge d.length 8 with h | h
    ·omega
    ·have h2:=hmp.out
     rw [show 9 - d.length=1 by omega]at h2
     omega
   have HV:Hid (bits .or .u8 ((m:Int) % 256) 128=(((128+m % 128).toUInt8.toNat:Nat):Int)):=zH (by
    rw [Go.Lib.u8_or128_any ((m:Int) % 256) (by omega) (by omega),toU8_lt (by omega)]
    omega)
   have HS:Hid (d++ [(128+m % 128).toUInt8]++dgF (8 - d.length) (m/128)=D):=zH (by
    have h:=hd.out
    rw [show 9 - d.length=(8 - d.length)+1 by omega,dgF_step hge]at h
    rw [List.append_assoc]
    exact h)
   have HM:Hid (m/128 < 128 ^ (8 - d.length)):=zH (by
    have h:=hmp.out
    rw [show 9 - d.length=(8 - d.length)+1 by omega,Nat.pow_succ]at h
    exact Nat.div_lt_of_lt_mul (by rw [Nat.mul_comm];exact h))
   clear hd hmp
   go_wp2_with (at_builtin;refine wpList_app_lit rfl (.tmp 8) (.tmp 12) 67 rfl byInfo byCells rfl ho.out [(((128+m % 128).toUInt8.toNat:Nat):Int)] 1 _ (by rw [HV.out];rfl) (d.length+1) 1 (by simp [bzL]) rfl _ rfl (by first | rfl | simp) (by omega) (by simp [maxLen];omega) HLE.out ?_;intro A6 c6 w6 ho6 hg6 ht6;have HO6:Hid (Own 5 1 byC w6 V.heap.size (.slice A6 (d.length+1) c6) (bzL (d++ [(128+m % 128).toUInt8]))):=zH (by unfold bzL at ho6⊢;rw [List.map_append];exact ho6);have HX6:Hid (Ext V w6):=zH (Own.below ho.out (hx.out.alloc _) hg6 (by have:=HLE.out;simp;omega));clear ho6 hg6 ht6)
   go_roundw
   case rel=>exact ⟨m/128,d++ [(128+m % 128).toUInt8],A6,c6,by go_num,by rw [List.length_append];rfl,by rw [List.length_append];simp;omega,by omega,by rw [List.length_append,List.length_singleton,show 9 - (d.length+1)=8 - d.length by omega];exact HM,by rw [List.length_append,List.length_singleton,show 9 - (d.length+1)=8 - d.length by omega];exact HS,by rw [List.length_append];exact HO6,HX6⟩
   case measure=>simp [intOf];omega
  have g0:decide ((128:Int)≤(m:Int))=false:=by rw [decide_eq_false_iff_not];omega
  have g1:decide ((m:Int) < 0)=false:=by simp
  have HV:Hid (m.toUInt8.toNat=m):=zH (toU8_lt (by omega))
  have HS:Hid (d++ [m.toUInt8]=D):=zH (by
   have h:=hd.out
   rw [show 9 - d.length=(8 - d.length)+1 by omega,dgF_last (by omega)]at h
   exact h)
  clear hd hmp
  go_wp2_with (at_builtin;refine wpList_app_lit rfl (.tmp 16) (.tmp 19) 67 rfl byInfo byCells rfl ho.out [((m.toUInt8.toNat:Nat):Int)] 1 _ (by rw [HV.out];rfl) (d.length+1) 1 (by simp [bzL]) rfl _ rfl (by first | rfl | simp) (by omega) (by simp [maxLen];omega) HLE.out ?_;intro A6 c6 w6 ho6 hg6 ht6;have HO6:Hid (Own 5 1 byC w6 V.heap.size (.slice A6 (d.length+1) c6) (bzL (d++ [m.toUInt8]))):=zH (by unfold bzL at ho6⊢;rw [List.map_append];exact ho6);have HX6:Hid (Ext V w6):=zH (Own.below ho.out (hx.out.alloc _) hg6 (by have:=HLE.out;simp;omega));have hcv:=own_str (by rw [List.length_append];rfl) HO6.out (by simp);clear ho6 hg6 ht6)
  go_ret
  exact ⟨by rw [HS.out];rfl,HX6.out⟩
theorem ba_ext {s:ByteArray} {k:Nat}:s.extract k s.size=⟨(s.data.toList.drop k).toArray⟩:=by
 apply ByteArray.ext
 apply Array.toList_inj.1
 rw [ByteArray.data_extract,Array.toList_extract,List.extract_eq_take_drop]
 rw [List.take_of_length_le (by rw [List.length_drop,ba_len];omega)]
theorem ba_ext0 {s:ByteArray} {n:Nat}:s.extract 0 n=⟨(s.data.toList.take n).toArray⟩:=by
 apply ByteArray.ext
 apply Array.toList_inj.1
 rw [ByteArray.data_extract,Array.toList_extract,List.extract_eq_take_drop]
 rfl
def RdAt (w:World) (X:Nat) (s:ByteArray) (bad:Bool):Prop:=w.heap[X]?=some (.cells #[.string s,.bool bad] 49 (0,0))
theorem number_none {most:Int} {X:Nat} {s:ByteArray} {bad:Bool} {V:World} (h:RdAt V X s bad) (hs:s.size≤1000000) (hn:numO most s.data.toList=none):Calls Try.prog 19 #[.pointer (some ⟨X,0,none⟩),.int .i64 most] V fun e w'=>e= .returned (.int .i64 0)∧w'=V.setCell ⟨X,1,none⟩ (.bool true):=by
 have k0:=(cells_of h).1
 have f0:=(cells_of h).2
 have l0:=lt_of_heap h
 obtain ⟨n,k,e,hg⟩:∃n k e,getB s.data.toList=(n,k,e):=⟨_,_,_,rfl⟩
 have HG:=zH hg
 have hc:(errG e !=0)=true∨((errG e !=0)=false∧decide (most < (n:Int))=true):=by
  unfold numO at hn
  rw [hg]at hn
  simp only at hn
  by_cases he:e=0
  ·subst he
   refine .inr ⟨rfl,?_⟩
   by_cases hm:most < (n:Int)
   ·simpa using hm
   ·rw [if_neg (by omega)]at hn
    cases hn
  ·refine .inl ?_
   unfold errG
   rw [if_neg he]
   split <;>rfl
 clear hn hg h
 go_enter Try.func19,Try.ntmps19
 go_wp2_with fail
 have Z:=get_any s hs V
 rw [HG.out]at Z
 refine Z.mono ?_
 clear Z
 rintro e w1 ⟨rfl,rfl⟩
 rcases hc with hc | ⟨hc,hm⟩
 all_goals
  go_wp2_with fail
  go_ret
  exact ⟨rfl,rfl⟩
theorem number_some {most n:Int} {r:List UInt8} {X:Nat} {s:ByteArray} {bad:Bool} {V:World} (h:RdAt V X s bad) (hs:s.size≤1000000) (hn:numO most s.data.toList=some (n,r)):Calls Try.prog 19 #[.pointer (some ⟨X,0,none⟩),.int .i64 most] V fun e w'=>e= .returned (.int .i64 n)∧w'=V.setCell ⟨X,0,none⟩ (.string ⟨r.toArray⟩):=by
 have k0:=(cells_of h).1
 have f0:=(cells_of h).2
 have l0:=lt_of_heap h
 obtain ⟨m,k,e,hg⟩:∃n k e,getB s.data.toList=(n,k,e):=⟨_,_,_,rfl⟩
 unfold numO at hn
 rw [hg]at hn
 simp only at hn
 by_cases he:e=0∧(m:Int)≤most
 rotate_left
 ·rw [if_pos (by omega)]at hn
  cases hn
 rw [if_neg (by omega)]at hn
 simp only [Option.some.injEq,Prod.mk.injEq]at hn
 obtain ⟨rfl,rfl⟩:=hn
 obtain ⟨rfl,hm⟩:=he
 have hk:=(getF_end [] s.data.toList 0 0 m k hg).2.2
 rw [ba_len]at hk
 have HG:=zH hg
 have hm2:decide (most < (m:Int))=false:=by simpa using hm
 have HE:(errG 0 !=0)=false:=rfl
 clear hg h hm
 go_enter Try.func19,Try.ntmps19
 go_wp2_with fail
 have Z:=get_any s hs V
 rw [HG.out]at Z
 refine Z.mono ?_
 clear Z
 rintro e w1 ⟨rfl,rfl⟩
 go_wp2_with fail
 go_ret
 exact ⟨rfl,by rw [←ba_ext]⟩
theorem take_some {n:Nat} {X:Nat} {s:ByteArray} {bad:Bool} {V:World} (h:RdAt V X s bad) (hs:s.size≤1000000) (hn:n≤s.size):Calls Try.prog 18 #[.pointer (some ⟨X,0,none⟩),.int .i64 n] V fun e w'=>e= .returned (.string ⟨(s.data.toList.take n).toArray⟩)∧w'=V.setCell ⟨X,0,none⟩ (.string ⟨(s.data.toList.drop n).toArray⟩):=by
 have k0:=(cells_of h).1
 have f0:=(cells_of h).2
 have l0:=lt_of_heap h
 clear h
 go_enter Try.func18,Try.ntmps18
 go_wp2_with fail
 go_ret
 exact ⟨by rw [←ba_ext0];rfl,by rw [←ba_ext]⟩
end Go.Proofs.Ytemmjmplhknemaa
