/- Merged by program (merge.py) out of: ValA, ValB, BitP. -/
import Derived.IntWalk
import Derived.Laws.Bits64b
import Derived.Test.YtemmjmplhknemaaMp1
set_option linter.unusedSimpArgs false
set_option linter.unusedVariables false
set_option maxRecDepth 100000
set_option maxHeartbeats 16000000
namespace Go.Proofs.Ytemmjmplhknemaa
open Go.RowKit
theorem and_3 (x:Int) (h0:0≤x) (h1:x < 18446744073709551616):bits .and .u64 x 3=x % 4:=by
 obtain ⟨n,rfl⟩:=Int.eq_ofNat_of_zero_le h0
 rw [show (3:Int)=((3:Nat):Int)from rfl,bits_and_u64_nat n 3 (by omega) (by omega)]
 have h:=Nat.and_two_pow_sub_one_eq_mod n 2
 rw [show 2 ^ 2 - 1=3 from rfl,show 2 ^ 2=4 from rfl]at h
 rw [h]
 omega
def decT (w:Int):Int:=if w % 4=1 then 1 else if w % 4=2∧w/4≤1099511627776 then 2 else 0
def decX (w:Int):Int:=if w % 4=1 then (if w < 9223372036854775808 then w/4 else w/4 - 4611686018427387904)else if w % 4=2∧w/4≤1099511627776 then w/4 else 0
def decE (w:Int):Int:=if w % 4=1∨(w % 4=2∧w/4≤1099511627776)∨w=0 then 0 else 3
theorem ret_dec {a b c a' b' c':Int} (h1:a=a') (h2:b=b') (h3:c=c'):Ending.returned (.tuple #[.agg #[.int .i64 a,.int .i64 b],.int .i64 c])= .returned (.tuple #[.agg #[.int .i64 a',.int .i64 b'],.int .i64 c']):=by rw [h1,h2,h3]
theorem dec_any (v:Int) (w:World) (h0:0≤v) (h1:v < 18446744073709551616):
  Calls Try.prog 70 #[.int .u64 v] w fun e w'=>e= .returned (.tuple #[.agg #[.int .i64 (decT v),.int .i64 (decX v)],.int .i64 (decE v)])∧Ext w w':=by
 have hand:=and_3 v h0 h1
 have HA:=zH hand
 clear hand
 go_enter Try.func70,Try.ntmps70
 go_wp2
 all_goals rw [HA.out]at*
 all_goals simp only [beq_iff_eq,beq_eq_false_iff_ne,decide_eq_true_eq,decide_eq_false_iff_not,bne_iff_ne,ne_eq]at*
 ·((try simp only [Exit.inBlock,Exit.then]);refine bodyPost_ret (v:= .tuple #[.agg #[.int .i64 1,.int .i64 (wrap64 v/4)],.int .i64 0]) (by simp only [results,Try.results70];go_simp) rfl ?_)
  exact ⟨ret_dec (by simp only [decT];omega) (by simp only [decX,wrap64];omega) (by simp only [decE];omega),zF⟩
 ·((try simp only [Exit.inBlock,Exit.then]);refine bodyPost_ret (v:= .tuple #[.agg #[.int .i64 2,.int .i64 (v/4)],.int .i64 0]) (by simp only [results,Try.results70];go_simp) rfl ?_)
  exact ⟨ret_dec (by simp only [decT];omega) (by simp only [decX];omega) (by simp only [decE];omega),zF⟩
 ·((try simp only [Exit.inBlock,Exit.then]);refine bodyPost_ret (v:= .tuple #[.agg #[.int .i64 0,.int .i64 0],.int .i64 3]) (by simp only [results,Try.results70];go_simp) rfl ?_)
  exact ⟨ret_dec (by simp only [decT];omega) (by simp only [decX];omega) (by simp only [decE];omega),zF⟩
 ·((try simp only [Exit.inBlock,Exit.then]);refine bodyPost_ret (v:= .tuple #[.agg #[.int .i64 0,.int .i64 0],.int .i64 0]) (by simp only [results,Try.results70];go_simp) rfl ?_)
  exact ⟨ret_dec (by simp only [decT];omega) (by simp only [decX];omega) (by simp only [decE];omega),zF⟩
 ·((try simp only [Exit.inBlock,Exit.then]);refine bodyPost_ret (v:= .tuple #[.agg #[.int .i64 0,.int .i64 0],.int .i64 3]) (by simp only [results,Try.results70];go_simp) rfl ?_)
  exact ⟨ret_dec (by simp only [decT];omega) (by simp only [decX];omega) (by simp only [decE];omega),zF⟩
 ·((try simp only [Exit.inBlock,Exit.then]);refine bodyPost_ret (v:= .tuple #[.agg #[.int .i64 0,.int .i64 0],.int .i64 3]) (by simp only [results,Try.results70];go_simp) rfl ?_)
  exact ⟨ret_dec (by simp only [decT];omega) (by simp only [decX];omega) (by simp only [decE];omega),zF⟩
theorem dec_bd {w:Int} (h0:0≤w) (h1:w < 18446744073709551616):(decT w=0∨decT w=1∨decT w=2)∧ -2305843009213693952≤decX w∧decX w≤2305843009213693951∧(decE w=0∨(decE w=3∧decT w=0)):=by
 simp only [decT,decX,decE]
 refine ⟨?_,?_,?_,?_⟩ <;>(repeat' split) <;>omega
theorem ofInt_nat (a:Nat) (ha:a < 18446744073709551616):(BitVec.ofInt 64 (a:Int)).toNat=a:=by
 rw [BitVec.ofInt_natCast,BitVec.toNat_ofNat];exact Nat.mod_eq_of_lt (by omega)
theorem andNot_high (w m k:Nat) (hw:w < 2 ^ k) (hk:k≤64) (hm:2 ^ k*m < 18446744073709551616):bits .andNot .u64 (w:Int) ((2 ^ k*m:Nat):Int)=(w:Int):=by
 have hw64:w < 18446744073709551616:=Nat.lt_of_lt_of_le hw (by
  have:2 ^ k≤2 ^ 64:=Nat.pow_le_pow_right (by omega) hk
  omega)
 have h1:=ofInt_nat w hw64
 have h2:=ofInt_nat (2 ^ k*m) hm
 show IntKind.u64.wrap ((BitVec.ofInt 64 (w:Int) &&& ~~~ BitVec.ofInt 64 ((2 ^ k*m:Nat):Int)).toNat:Int)=_
 rw [BitVec.toNat_and,BitVec.toNat_not,h1,h2,IntKind.wrap_u64]
 have h3:w &&& (2 ^ 64 - 1 - 2 ^ k*m)=w:=by
  apply Nat.eq_of_testBit_eq
  intro i
  rw [Nat.testBit_and,show 2 ^ 64 - 1 - 2 ^ k*m=2 ^ 64 - (2 ^ k*m+1)by omega,Nat.testBit_two_pow_sub_succ (by omega)]
  by_cases hi:i < k
  ·rw [Nat.testBit_two_pow_mul]
   have:decide (i≥k)=false:=by simp;omega
   rw [this]
   simp
   intro _
   omega
  ·have:w.testBit i=false:=Nat.testBit_lt_two_pow (Nat.lt_of_lt_of_le hw (Nat.pow_le_pow_right (by omega) (by omega)))
   rw [this];rfl
 rw [h3]
 omega
theorem or_high (w x k:Nat) (hw:w < 2 ^ k) (h:w+2 ^ k*x < 18446744073709551616):bits .or .u64 (w:Int) ((2 ^ k*x:Nat):Int)=((w+2 ^ k*x:Nat):Int):=by
 rw [bits_or_u64_nat w (2 ^ k*x) (by omega) (by omega),Nat.or_comm]
 have:=Nat.two_pow_add_eq_or_of_lt (i:=k) (b:=w) hw x
 rw [←this]
 omega
theorem and_mask (w n:Nat) (hw:w < 18446744073709551616) (hn:n≤64):bits .and .u64 (w:Int) ((2 ^ n - 1:Nat):Int)=((w % 2 ^ n:Nat):Int):=by
 have h64:2 ^ n≤2 ^ 64:=Nat.pow_le_pow_right (by omega) hn
 rw [bits_and_u64_nat w (2 ^ n - 1) hw (by omega),Nat.and_two_pow_sub_one_eq_mod]
theorem andNot_mask (x n:Nat) (hx:x < 2 ^ n) (hn:n≤64):bits .andNot .u64 (x:Int) ((2 ^ n - 1:Nat):Int)=0:=by
 have h64:2 ^ n≤2 ^ 64:=Nat.pow_le_pow_right (by omega) hn
 have hx64:x < 18446744073709551616:=by omega
 have h1:=ofInt_nat x hx64
 have h2:=ofInt_nat (2 ^ n - 1) (by omega)
 show IntKind.u64.wrap ((BitVec.ofInt 64 (x:Int) &&& ~~~ BitVec.ofInt 64 ((2 ^ n - 1:Nat):Int)).toNat:Int)=_
 rw [BitVec.toNat_and,BitVec.toNat_not,h1,h2,IntKind.wrap_u64]
 have h3:x &&& (2 ^ 64 - 1 - (2 ^ n - 1))=0:=by
  apply Nat.eq_of_testBit_eq
  intro i
  rw [Nat.testBit_and,show 2 ^ 64 - 1 - (2 ^ n - 1)=2 ^ 64 - ((2 ^ n - 1)+1)by omega,Nat.testBit_two_pow_sub_succ (by omega),Nat.testBit_two_pow_sub_one]
  by_cases hi:i < n
  ·simp [hi]
  ·have:x.testBit i=false:=Nat.testBit_lt_two_pow (Nat.lt_of_lt_of_le hx (Nat.pow_le_pow_right (by omega) (by omega)))
   rw [this];simp
 rw [h3]
 rfl
end Go.Proofs.Ytemmjmplhknemaa
