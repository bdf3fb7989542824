/- Merged by program (merge.py) out of: ApZ. -/
import Derived.Lib.AppendZeros
import Derived.Test.YtemmjmplhknemaaMp5
set_option linter.unusedSimpArgs false
set_option linter.unusedVariables false
set_option maxRecDepth 100000
set_option maxHeartbeats 16000000
namespace Go.Proofs.Ytemmjmplhknemaa
open Go.RowKit
section
variable {P : Program} (w : World)
theorem run_append_room_zeros (t tn ty e:TypeId) (i:TypeInfo) (z:Value) (k kn:IntKind) (ht:P.underlying t=some (.slice e)) (htn:P.underlying tn=some (.int kn)) (hi:P.info? e=some i) (hz:i.zero=some z)
  (g sLen sCap:Nat) (cur:Array Value) (hg:w.heap[g]?=some (.cells cur e (0,0))) (m:Nat) (h0:0 < m) (hs:0 < i.size) (h63:m≤9223372036854775807) (h48:m*i.bytes≤281474976710656)
  (h1:∀u∈(Builtin.zeroCells z.cells m).toList,u.oneCell'=true) (hroom:sLen+m≤sCap) (hfit:sLen*i.size+(Builtin.zeroCells z.cells m).toList.length≤cur.size):
  (Builtin.append_ #[t,tn] ty #[.slice (some ⟨g,0,none⟩) sLen sCap,.int k m]).run P w=
   .ok (.slice (some ⟨g,0,none⟩) (sLen+m) sCap) (w.setRow g (cur.toList.take (sLen*i.size)++(Builtin.zeroCells z.cells m).toList++cur.toList.drop (sLen*i.size+(Builtin.zeroCells z.cells m).toList.length)).toArray):=by
 have hst:=run_storeCells_at P g (sLen*i.size) e (Builtin.zeroCells z.cells m).toList 0 cur w hg (by simpa using hfit) h1
 simp only [Nat.add_zero]at hst
 have hn:m≠0:=by omega
 have hw:IntKind.i64.wrap (m:Int)=m:=by rw [IntKind.wrap_i64];omega
 have h48i:¬(281474976710656 < (m:Int)*(i.bytes:Int)):=by
  rw [←Int.natCast_mul]
  omega
 have hneg:¬((m:Int) < 0):=by omega
 have hns:¬(m*i.size=0):=Nat.mul_ne_zero hn (by omega)
 simp [Builtin.append_,run_underlying ht,run_underlying htn,sizeOf,typeInfo,zeroValue,hi,hz,asInt,asIntOf,hw,hn,hneg,hns,h48i,hroom,Addr.add_lit,hst]
theorem run_append_grow_zeros (t tn ty e:TypeId) (i:TypeInfo) (z:Value) (k kn:IntKind) (ht:P.underlying t=some (.slice e)) (htn:P.underlying tn=some (.int kn)) (hi:P.info? e=some i) (hz:i.zero=some z)
  (b:Addr) (sLen sCap:Nat) (olds:List Value) (hlo:olds.length=sLen*i.size) (holds:∀j v,olds[j]?=some v→w.cell? (b.add j)=some v)
  (n:Nat) (h0:0 < n) (hs:0 < i.size) (h48:n*i.bytes≤281474976710656)
  (hg:sCap < sLen+n) (h63:((sLen+n:Nat):Int)≤9223372036854775807) (hfit:Builtin.nextslicecap (sLen+n) sCap*i.bytes≤281474976710656):
  (Builtin.append_ #[t,tn] ty #[.slice (some b) sLen sCap,.int k n]).run P w=
   .ok (.slice (some ⟨w.heap.size,0,none⟩) (sLen+n) (grownCap w (sLen+n) sCap e))
    (w.drew.alloc (.cells (olds.toArray++(Builtin.zeroCells z.cells n).toList.toArray++Builtin.zeroCells z.cells (grownCap w (sLen+n) sCap e - (sLen+n))) e)):=by
 have hn:¬(sLen+n≤sCap):=by omega
 have hn0:n≠0:=by omega
 have hw:IntKind.i64.wrap (n:Int)=n:=by rw [IntKind.wrap_i64];omega
 have h48i:¬(281474976710656 < (n:Int)*(i.bytes:Int)):=by
  rw [←Int.natCast_mul]
  omega
 have hneg:¬((n:Int) < 0):=by omega
 have hns:¬(n*i.size=0):=Nat.mul_ne_zero hn0 (by omega)
 have h63':¬(9223372036854775807 < ((sLen:Int)+(n:Int))):=by omega
 have h48':¬(281474976710656 < Builtin.nextslicecap (sLen+n) sCap*i.bytes):=by omega
 have hfo:=run_firstCells_some (P:=P) w.drew i.size sLen b sLen sCap olds hlo (by simpa using holds)
 simp [Builtin.append_,run_underlying ht,run_underlying htn,sizeOf,typeInfo,zeroValue,hi,hz,asInt,asIntOf,hw,hn,hn0,hneg,hns,h48i,h63',h48',Question.forced,hfo,newRow,grownCap]
theorem run_append_own_zeros (base:Nat) (t tn ty e:TypeId) (i:TypeInfo) (z:Value) (k kn:IntKind) (size bytes:Nat) (ht:P.underlying t=some (.slice e)) (htn:P.underlying tn=some (.int kn)) (hi:P.info? e=some i) (hz:i.zero=some z)
  (hsize:i.size=size) (hby:i.bytes=bytes) (hzs:z.cells.size=size) (hsz:0 < size) (g n cap:Nat) (xs:List Value) (hown:w.ownsRow base e size (.slice (some ⟨g,0,none⟩) n cap) n xs)
  (m:Nat) (h0:0 < m) (h1:∀u∈(Builtin.zeroCells z.cells m).toList,u.oneCell'=true)
  (h63:n+m≤maxLen) (hbytes:(n+m)*bytes≤140737488355328) (hbase:base≤w.heap.size):
  ∃g2 cap2 w',(Builtin.append_ #[t,tn] ty #[.slice (some ⟨g,0,none⟩) n cap,.int k m]).run P w= .ok (.slice (some ⟨g2,0,none⟩) (n+m) cap2) w'∧w'.ownsRow base e size (.slice (some ⟨g2,0,none⟩) (n+m) cap2) (n+m) (xs++(Builtin.zeroCells z.cells m).toList)∧w.grownBy w' (some g):=by
 subst hsize
 subst hby
 have hsmall:n+m≤9223372036854775807:=by simp only [maxLen]at h63;omega
 have hl:(Builtin.zeroCells z.cells m).toList.length=m*i.size:=by rw [Array.length_toList,size_zeroCells,hzs]
 have h48:m*i.bytes≤281474976710656:=by have:=Nat.mul_le_mul_right i.bytes (Nat.le_add_left m n);omega
 have hlen:(xs++(Builtin.zeroCells z.cells m).toList).length=(n+m)*i.size:=by rw [List.length_append,hown.1,hl,Nat.add_mul]
 have holds:∀j u,xs[j]?=some u→w.cell? ((⟨g,0,none⟩:Addr).add j)=some u:=hown.cells (g:=g) rfl
 have hxl:=hown.1
 rcases hown.2 with ⟨h,_⟩ | ⟨g',cap',cur,hv,hbg,hg,hnc,hcm,hcs,htake⟩
 ·cases h
 ·injection hv with hv1 hv2 hv3
  injection hv1 with hv1
  injection hv1 with hv1
  subst hv1 hv3
  by_cases hroom:n+m≤cap
  ·have hfit:n*i.size+(Builtin.zeroCells z.cells m).toList.length≤cur.size:=by rw [hl,hcs,←Nat.add_mul];exact Nat.mul_le_mul_right _ hroom
   have hr:=run_append_room_zeros (P:=P) w t tn ty e i z k kn ht htn hi hz g n cap cur hg m h0 hsz (by omega) h48 h1 hroom hfit
   refine ⟨_,_,_,hr,⟨hlen,.inr ⟨g,cap,_,rfl,hbg,setRow_heap w g cur _ e _ hg,hroom,hcm,?_,?_⟩⟩,⟨rfl,rfl,rfl,by simp,fun k _ hk=>setRow_other w g k _ (fun e=>hk (by simp [e]))⟩⟩
   ·simp only [List.size_toArray,List.length_append,List.length_take,List.length_drop,Array.length_toList]at hfit⊢
    omega
   ·rw [htake,←hlen]
    exact List.take_left
  ·have hr:=run_append_grow_zeros (P:=P) w t tn ty e i z k kn ht htn hi hz ⟨g,0,none⟩ n cap xs hxl holds m h0 hsz h48 (by omega) (by omega) (growslice_fits (by omega) hbytes)
   have hge:=grownCap_ge w (n+m) cap e
   have hcm:grownCap w (n+m) cap e≤maxLen:=grownCap_le_maxLen w (n+m) cap e h63
   refine ⟨_,_,_,hr,⟨hlen,.inr ⟨w.heap.size,_,_,rfl,hbase,heap_alloc_new w.drew _,hge,hcm,?_,?_⟩⟩,⟨rfl,rfl,rfl,by simp,fun k hk _=>by first | exact heap_alloc_old w.drew k hk _ | exact heap_alloc_old w.drew _ hk | exact heap_alloc_old w.drew k _ hk | exact RowKit.Below.heap_alloc w.drew _ k hk⟩⟩
   ·simp only [Array.size_append,List.size_toArray,size_zeroCells,hzs,hown.1,hl,←Nat.add_mul]
    congr 1
    omega
   ·simp only [Array.toList_append,List.append_assoc]
    rw [←List.append_assoc,←hlen]
    exact List.take_left
end
end Go.Proofs.Ytemmjmplhknemaa
