/- Merged by program (merge.py) out of: PkA. -/
import Derived.Test.YtemmjmplhknemaaMp7
import Derived.Test.YtemmjmplhknemaaMp34
set_option linter.unusedSimpArgs false
set_option linter.unusedVariables false
set_option maxRecDepth 100000
set_option maxHeartbeats 16000000
namespace Go.Proofs.Ytemmjmplhknemaa
open Go.RowKit Go.Shelf
def errG (k:Nat):Int:=if k=0 then 0 else if k=1 then 4 else 14
theorem ba_len (s:ByteArray):s.data.toList.length=s.size:=Array.length_toList
theorem ba_drop (s:ByteArray) (k:Nat) (h:k < s.size):s.data.toList.drop k=s[k]::s.data.toList.drop (k+1):=by
 rw [List.drop_eq_getElem_cons (by rw [ba_len];exact h)]
 rfl
theorem get_val {a c k:Nat} (ha:a < 128 ^ k) (hk:k≤8) (hc:c < 256):bits .or .i64 (a:Int) (wrap64 (wrap64 (bits .and .u8 (c:Int) 127)*2 ^ (7*k)))=((a+c % 128*128 ^ k:Nat):Int):=by
 have hp:=pow128_le hk
 have hm:c % 128*128 ^ k≤127*72057594037927936:=Nat.mul_le_mul (by omega) hp
 have e1:wrap64 (((c % 128:Nat):Int))=((c % 128:Nat):Int):=by unfold wrap64;omega
 have e2:((c % 128:Nat):Int)*2 ^ (7*k)=((c % 128*128 ^ k:Nat):Int):=by
  rw [pow128]
  push_cast
  rfl
 rw [and127 hc,e1,e2]
 rw [show wrap64 ((c % 128*128 ^ k:Nat):Int)=((c % 128*128 ^ k:Nat):Int)by
  generalize c % 128*128 ^ k=x at*
  unfold wrap64
  omega]
 exact or_digit ha (by omega) hk
theorem get_any (s:ByteArray) (hs:s.size≤1000000) (V:World):Calls Try.prog 9 #[.string s] V fun e w'=>e= .returned (.tuple #[.int .i64 (getB s.data.toList).1,.int .i64 (getB s.data.toList).2.1,.int .i64 (errG (getB s.data.toList).2.2)])∧w'=V:=by
 obtain ⟨g,hg⟩:∃g,getB s.data.toList=g:=⟨_,rfl⟩
 have HG:=zH hg
 rw [hg]
 clear hg
 go_enter Try.func9,Try.ntmps9
 go_wp2_with fail
 go_loop [5,10] (fun n i=>∃(k a:Nat),k≤s.size∧i= .int .i64 k∧n= .int .i64 a∧k≤8∧Hid (a < 128 ^ k)∧Hid (getF (s.data.toList.drop k) k a=g)) (fun _ i=>s.size - (intOf i).toNat)
 case atStart=>exact ⟨0,0,Nat.zero_le _,rfl,rfl,by omega,zH (by decide),zH HG.out⟩
 case round=>
  obtain ⟨k,a,hk,rfl,rfl,hk8,ha,hgk⟩:=hrel
  by_cases hlt:k < s.size
  rotate_left
  ·have HE : Hid (g = (0, 0, 2)) := zH (by
    have h:=hgk.out
    rw [List.drop_eq_nil_of_le (by rw [ba_len];omega)]at h
    exact h.symm)
   go_wp2_with fail
   ((try simp only [Exit.inBlock,Exit.then]);refine bodyPost_ret (v:= .tuple #[.int .i64 0,.int .i64 0,.int .i64 14]) (by simp only [results,Try.results9];go_simp) rfl ?_)
   exact ⟨by rw [HE.out];rfl,rfl⟩
  have HST:=zH hgk.out
  rw [ba_drop s k hlt,getF_step]at HST
  have HC:=zH (s[k].toNat_lt)
  have HV:=zH (get_val ha.out hk8 (c:=s[k].toNat) (by have:=HC.out;omega))
  have HL:=zH (acc_lt (c:=s[k].toNat) ha.out)
  clear ha hgk
  generalize hc:s[k].toNat=c at HST HC HV HL
  go_wp2_with fail
  ·rename_i h1 h2 h3 _
   have HE:Hid (g=(0,0,1)):=zH (by have h:=HST.out;rw [if_pos (by omega),if_pos ⟨h2,h3⟩]at h;exact h.symm)
   ((try simp only [Exit.inBlock,Exit.then]);refine bodyPost_ret (v:= .tuple #[.int .i64 0,.int .i64 0,.int .i64 4]) (by simp only [results,Try.results9];go_simp) rfl ?_)
   exact ⟨by rw [HE.out];rfl,rfl⟩
  ·rename_i h1 h2 h3 _
   have HE:Hid (g=(a+c % 128*128 ^ k,k+1,0)):=zH (by have h:=HST.out;rw [if_pos (by omega),if_neg (by omega)]at h;rw [show c % 128=c by omega];exact h.symm)
   have hv:(bits .or .i64 (a:Int) (wrap64 (wrap64 (bits .and .u8 0 127)*2 ^ (7*k))))=((a+c % 128*128 ^ k:Nat):Int):=by have:=HV.out;rw [h2]at this⊢;exact this
   ((try simp only [Exit.inBlock,Exit.then]);refine bodyPost_ret (v:= .tuple #[.int .i64 (bits .or .i64 (a:Int) (wrap64 (wrap64 (bits .and .u8 0 127)*2 ^ (7*k)))),.int .i64 ((k:Int)+1),.int .i64 0]) (by simp only [results,Try.results9];go_simp) rfl ?_)
   exact ⟨by rw [HE.out,hv];rfl,rfl⟩
  ·rename_i h1 h2 _
   have HE:Hid (g=(a+c % 128*128 ^ k,k+1,0)):=zH (by have h:=HST.out;rw [if_pos (by omega),if_neg (by omega)]at h;rw [show c % 128=c by omega];exact h.symm)
   ((try simp only [Exit.inBlock,Exit.then]);refine bodyPost_ret (v:= .tuple #[.int .i64 (bits .or .i64 (a:Int) (wrap64 (wrap64 (bits .and .u8 (c:Int) 127)*2 ^ (7*k)))),.int .i64 ((k:Int)+1),.int .i64 0]) (by simp only [results,Try.results9];go_simp) rfl ?_)
   exact ⟨by rw [HE.out,HV.out];rfl,rfl⟩
  ·rename_i h2 _ h1
   have h8:k=8:=by have:=eq_of_beq h2;omega
   have HE:Hid (g=(0,0,1)):=zH (by have h:=HST.out;rw [if_neg (by omega),if_pos h8]at h;exact h.symm)
   ((try simp only [Exit.inBlock,Exit.then]);refine bodyPost_ret (v:= .tuple #[.int .i64 0,.int .i64 0,.int .i64 4]) (by simp only [results,Try.results9];go_simp) rfl ?_)
   exact ⟨by rw [HE.out];rfl,rfl⟩
  ·rename_i h1 h2
   have h8:k≠8:=by have:=ne_of_beq_false h2;omega
   have HE:Hid (getF (s.data.toList.drop (k+1)) (k+1) (a+c % 128*128 ^ k)=g):=zH (by have h:=HST.out;rw [if_neg (by omega),if_neg h8]at h;exact h)
   refine ⟨⟨k+1,a+c % 128*128 ^ k,by omega,by go_num,by rw [HV.out],by omega,HL,HE⟩,by simp [intOf];omega⟩
end Go.Proofs.Ytemmjmplhknemaa
