/- Merged by program (merge.py) out of: PkN. -/
import Derived.Lib.Varint
import Derived.Test.YtemmjmplhknemaaMp1
set_option linter.unusedSimpArgs false
set_option linter.unusedVariables false
set_option maxRecDepth 100000
set_option maxHeartbeats 16000000
namespace Go.Proofs.Ytemmjmplhknemaa
open Go.RowKit
theorem pow128 (i:Nat):128 ^ i=2 ^ (7*i):=by rw [show (128:Nat)=2 ^ 7 from rfl,←Nat.pow_mul]
theorem pow128_le {i:Nat} (hi:i≤8):128 ^ i≤72057594037927936:=by
 have:(128:Nat) ^ i≤128 ^ 8:=Nat.pow_le_pow_right (by omega) hi
 have e:(128:Nat) ^ 8=72057594037927936:=by decide
 omega
theorem or_digit {n c i:Nat} (hn:n < 128 ^ i) (hc:c < 128) (hi:i≤8):bits .or .i64 (n:Int) ((c*128 ^ i:Nat):Int)=((n+c*128 ^ i:Nat):Int):=by
 have hp:=pow128_le hi
 have hm:c*128 ^ i≤127*72057594037927936:=Nat.mul_le_mul (by omega) hp
 have e63:(2:Nat) ^ 63=9223372036854775808:=by decide
 rw [(bits_nat .i64 63 (by decide) (fun x h0 h1=>by
  have e:(2:Int) ^ 63=9223372036854775808:=by decide
  rw [e]at h1
  rw [IntKind.wrap_i64]
  omega) n (c*128 ^ i) (by omega) (by omega)).2]
 have h2:=Nat.two_pow_add_eq_or_of_lt (i:=7*i) (b:=n) (by rw [←pow128];exact hn) c
 rw [←pow128,Nat.mul_comm]at h2
 rw [Nat.or_comm,←h2,Nat.add_comm]
theorem and127 {c:Nat} (hc:c < 256):bits .and .u8 (c:Int) 127=((c % 128:Nat):Int):=by
 have h:=(bits_nat .u8 8 (by decide) (fun x h0 h1=>by
  have e:(2:Int) ^ 8=256:=by decide
  rw [e]at h1
  rw [IntKind.wrap_u8]
  omega) c 127 (by omega) (by decide)).1
 have e:((127:Nat):Int)=127:=rfl
 rw [e]at h
 rw [h,show 127=2 ^ 7 - 1 from rfl,Nat.and_two_pow_sub_one_eq_mod]
theorem getF_step {c:UInt8} {l:List UInt8} {i a:Nat}:getF (c::l) i a=if c.toNat < 128 then (if c.toNat=0∧0 < i then (0,0,1)else (a+c.toNat*128 ^ i,i+1,0))else if i=8 then (0,0,1)else getF l (i+1) (a+c.toNat % 128*128 ^ i):=by
 rw [getF]
 split
 ·rfl
 ·rename_i h
  have:=c.toNat_lt
  rw [show c.toNat - 128=c.toNat % 128 by omega]
theorem acc_lt {a c i:Nat} (h:a < 128 ^ i):a+c % 128*128 ^ i < 128 ^ (i+1):=by
 have h1:c % 128*128 ^ i≤127*128 ^ i:=Nat.mul_le_mul_right _ (by omega)
 rw [Nat.pow_succ]
 omega
theorem dgF_step {f n:Nat} (h:128≤n):dgF (f+1) n=(128+n % 128).toUInt8::dgF f (n/128):=by
 rw [dgF,if_neg (by omega)]
theorem dgF_last {f n:Nat} (h:n < 128):dgF (f+1) n= [n.toUInt8]:=by rw [dgF,if_pos h]
end Go.Proofs.Ytemmjmplhknemaa
