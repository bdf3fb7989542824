/- Merged by program (merge.py) out of: ValA, ValB, BitP, GraV. -/
import Derived.Test.YtphpppjfogpohaaGreatMy0
import Derived.IntWalk
import Derived.Laws.Bits64b
import Derived.Test.YtphpppjfogpohaaGreatMy1
set_option linter.unusedSimpArgs false
set_option linter.unusedVariables false
set_option maxRecDepth 100000
set_option maxHeartbeats 16000000
namespace Go.Proofs.YtphpppjfogpohaaGreat
open Go.RowKit
theorem vG (x:Int) (k:Nat) (h0:0≤x) (h1:x < 18446744073709551616) (h4:x % 4=0) (hk:k < 4):bits .or .u64 x (k:Int)=x+k:=by
 obtain ⟨n,rfl⟩:=Int.eq_ofNat_of_zero_le h0
 rw [bits_or_u64_nat n k oM oM]
 obtain ⟨m,rfl⟩:∃m,n=4*m:=⟨n/4,by omega⟩
 have h:=Nat.shiftLeft_add_eq_or_of_lt (i:=2) (b:=k) oM m
 rw [Nat.shiftLeft_eq,show m*2 ^ 2=4*m by omega]at h
 rw [←h]
 omega
theorem or_1 (x:Int) (h0:0≤x) (h1:x < 18446744073709551616) (h4:x % 4=0):bits .or .u64 x 1=x+1:=vG x 1 h0 h1 h4 oM
theorem or_2 (x:Int) (h0:0≤x) (h1:x < 18446744073709551616) (h4:x % 4=0):bits .or .u64 x 2=x+2:=vG x 2 h0 h1 h4 oM
theorem zU (x:Int) (h0:0≤x) (h1:x < 18446744073709551616):bits .and .u64 x 3=x % 4:=by
 obtain ⟨n,rfl⟩:=Int.eq_ofNat_of_zero_le h0
 rw [show (3:Int)=((3:Nat):Int)from rfl,bits_and_u64_nat n 3 oM oM]
 have h:=Nat.and_two_pow_sub_one_eq_mod n 2
 rw [show 2 ^ 2 - 1=3 from rfl,show 2 ^ 2=4 from rfl]at h
 rw [h]
 omega
theorem vH (x:Int):IntKind.u64.wrap x=x % 18446744073709551616:=by rw [IntKind.wrap_u64]
def cv (k x:Int):Bool:=decide ((k=0∧x=0)∨(k=1∧ -2305843009213693952≤x∧x≤2305843009213693951)∨(k=2∧0≤x∧x≤1099511627776))
def encW (k x:Int):Int:=if cv k x then (if k=0 then 0 else (4*x+k) % 18446744073709551616)else 0
def encE (k x:Int):Int:=if cv k x then 0 else 1
theorem y6 {x:Int} (h1: -2305843009213693952≤x) (h2:x≤2305843009213693951):encW 1 x=(4*x+1) % 18446744073709551616∧encE 1 x=0:=by
 have:cv 1 x=true:=by simp [cv];omega
 simp [encW,encE,this]
theorem y7 {x:Int} (h1:0≤x) (h2:x≤1099511627776):encW 2 x=(4*x+2) % 18446744073709551616∧encE 2 x=0:=by
 have:cv 2 x=true:=by simp [cv];omega
 simp [encW,encE,this]
theorem nv {k x:Int} (h:cv k x=false):encW k x=0∧encE k x=1:=by simp [encW,encE,h]
theorem xY {a b c d:Int} (h1:a=c) (h2:b=d):Ending.returned (.tuple #[.int .u64 a,.int .i64 b])= .returned (.tuple #[.int .u64 c,.int .i64 d]):=by rw [h1,h2]
theorem xZ (k x:Int) (w:World):
  Calls Tryz.prog 41 #[.agg #[.int .i64 k,.int .i64 x]] w fun e w'=>e= .returned (.tuple #[.int .u64 (encW k x),.int .i64 (encE k x)])∧Ext w w':=by
 go_enter Tryz.func41,Tryz.ntmps41
 go_wp2
 all_goals go_ret2
 all_goals simp only [beq_iff_eq,beq_eq_false_iff_ne,decide_eq_true_eq,decide_eq_false_iff_not,bne_iff_ne,ne_eq]at*
 all_goals refine ⟨xY ?_ ?_,(zo _).alloc _⟩
 all_goals first
  | (rw [(nv (k:=k) (x:=x) (by simp [cv];omega)).1];done)
  | (rw [(nv (k:=k) (x:=x) (by simp [cv];omega)).2];done)
  | (subst k;(try simp only [vH]);rw [or_1 _ oM oM oM,(y6 oM oM).1];omega)
  | (subst k;(try simp only [vH]);rw [or_2 _ oM oM oM,(y7 oM oM).1];omega)
  | (subst k;rw [(y6 oM oM).2];done)
  | (subst k;rw [(y7 oM oM).2];done)
  | (subst k;subst x;rfl)
theorem pL (k x:Int) (w:World):
  Calls Tryz.prog 139 #[.agg #[.int .i64 k,.int .i64 x]] w fun e w'=>e= .returned (.bool (cv k x))∧Ext w w':=by
 go_enter Tryz.func139,Tryz.ntmps139
 go_wp2
 all_goals go_ret
 all_goals simp only [beq_iff_eq,beq_eq_false_iff_ne,decide_eq_true_eq,decide_eq_false_iff_not,bne_iff_ne,ne_eq]at*
 all_goals exact ⟨aD (by rw [Bool.eq_iff_iff];simp [cv];omega),(zo _).alloc _⟩
theorem gJ (k x:Int) (b:Bool) (h:cv k x=b) (w:World):Calls Tryz.prog 139 #[.agg #[.int .i64 k,.int .i64 x]] w fun e w'=>e= .returned (.bool b)∧Ext w w':=by
 subst h;exact pL k x w
theorem vI (k x u er:Int) (h1:encW k x=u) (h2:encE k x=er) (w:World):
  Calls Tryz.prog 41 #[.agg #[.int .i64 k,.int .i64 x]] w fun e w'=>e= .returned (.tuple #[.int .u64 u,.int .i64 er])∧Ext w w':=by
 subst h1 h2;exact xZ k x w
def decT (w:Int):Int:=if w % 4=1 then 1 else if w % 4=2∧w/4≤1099511627776 then 2 else 0
def decX (w:Int):Int:=if w % 4=1 then (if w < 9223372036854775808 then w/4 else w/4 - 4611686018427387904)else if w % 4=2∧w/4≤1099511627776 then w/4 else 0
def decE (w:Int):Int:=if w % 4=1∨(w % 4=2∧w/4≤1099511627776)∨w=0 then 0 else 3
theorem d6 {a b c a' b' c':Int} (h1:a=a') (h2:b=b') (h3:c=c'):Ending.returned (.tuple #[.agg #[.int .i64 a,.int .i64 b],.int .i64 c])= .returned (.tuple #[.agg #[.int .i64 a',.int .i64 b'],.int .i64 c']):=by rw [h1,h2,h3]
theorem ny (v:Int) (w:World) (h0:0≤v) (h1:v < 18446744073709551616):
  Calls Tryz.prog 59 #[.int .u64 v] w fun e w'=>e= .returned (.tuple #[.agg #[.int .i64 (decT v),.int .i64 (decX v)],.int .i64 (decE v)])∧Ext w w':=by
 have hand:=zU v h0 h1
 have HA:=zH hand
 clear hand
 go_enter Tryz.func59,Tryz.ntmps59
 go_wp2
 all_goals rw [HA.out]at*
 all_goals simp only [beq_iff_eq,beq_eq_false_iff_ne,decide_eq_true_eq,decide_eq_false_iff_not,bne_iff_ne,ne_eq]at*
 ·((try simp only [Exit.inBlock,Exit.then]);refine bodyPost_ret (v:= .tuple #[.agg #[.int .i64 1,.int .i64 (wrap64 v/4)],.int .i64 0]) (by simp only [results,Tryz.results59];go_simp) rfl ?_)
  exact ⟨d6 (by simp only [decT];omega) (by simp only [decX,wrap64];omega) (by simp only [decE];omega),zF⟩
 ·((try simp only [Exit.inBlock,Exit.then]);refine bodyPost_ret (v:= .tuple #[.agg #[.int .i64 2,.int .i64 (v/4)],.int .i64 0]) (by simp only [results,Tryz.results59];go_simp) rfl ?_)
  exact ⟨d6 (by simp only [decT];omega) (by simp only [decX];omega) (by simp only [decE];omega),zF⟩
 ·((try simp only [Exit.inBlock,Exit.then]);refine bodyPost_ret (v:= .tuple #[.agg #[.int .i64 0,.int .i64 0],.int .i64 3]) (by simp only [results,Tryz.results59];go_simp) rfl ?_)
  exact ⟨d6 (by simp only [decT];omega) (by simp only [decX];omega) (by simp only [decE];omega),zF⟩
 ·((try simp only [Exit.inBlock,Exit.then]);refine bodyPost_ret (v:= .tuple #[.agg #[.int .i64 0,.int .i64 0],.int .i64 0]) (by simp only [results,Tryz.results59];go_simp) rfl ?_)
  exact ⟨d6 (by simp only [decT];omega) (by simp only [decX];omega) (by simp only [decE];omega),zF⟩
 ·((try simp only [Exit.inBlock,Exit.then]);refine bodyPost_ret (v:= .tuple #[.agg #[.int .i64 0,.int .i64 0],.int .i64 3]) (by simp only [results,Tryz.results59];go_simp) rfl ?_)
  exact ⟨d6 (by simp only [decT];omega) (by simp only [decX];omega) (by simp only [decE];omega),zF⟩
 ·((try simp only [Exit.inBlock,Exit.then]);refine bodyPost_ret (v:= .tuple #[.agg #[.int .i64 0,.int .i64 0],.int .i64 3]) (by simp only [results,Tryz.results59];go_simp) rfl ?_)
  exact ⟨d6 (by simp only [decT];omega) (by simp only [decX];omega) (by simp only [decE];omega),zF⟩
theorem kN (v:Int) (w:World) (h0:0≤v) (h1:v < 18446744073709551616):
  Calls Tryz.prog 71 #[.int .u64 v] w fun e w'=>e= .returned (.tuple #[.agg #[.int .i64 (decT v),.int .i64 (decX v)],.int .i64 (decE v)])∧Ext w w':=by
 go_enter Tryz.func71,Tryz.ntmps71
 go_wp2
 all_goals simp only [beq_iff_eq,beq_eq_false_iff_ne,decide_eq_true_eq,decide_eq_false_iff_not,bne_iff_ne,ne_eq]at*
 ·((try simp only [Exit.inBlock,Exit.then]);refine bodyPost_ret (v:= .tuple #[.agg #[.int .i64 0,.int .i64 (0)],.int .i64 0]) (by simp only [results,Tryz.results71];go_simp) rfl ?_)
  exact ⟨d6 (by simp only [decT];omega) (by simp only [decX];omega) (by simp only [decE];omega),zF⟩
 ·((try simp only [Exit.inBlock,Exit.then]);refine bodyPost_ret (v:= .tuple #[.agg #[.int .i64 1,.int .i64 (v/4)],.int .i64 0]) (by simp only [results,Tryz.results71];go_simp) rfl ?_)
  exact ⟨d6 (by simp only [decT];omega) (by simp only [decX];omega) (by simp only [decE];omega),zF⟩
 ·((try simp only [Exit.inBlock,Exit.then]);refine bodyPost_ret (v:= .tuple #[.agg #[.int .i64 1,.int .i64 (-(4611686018427387904 - v/4))],.int .i64 0]) (by simp only [results,Tryz.results71];go_simp) rfl ?_)
  exact ⟨d6 (by simp only [decT];omega) (by simp only [decX];omega) (by simp only [decE];omega),zF⟩
 ·((try simp only [Exit.inBlock,Exit.then]);refine bodyPost_ret (v:= .tuple #[.agg #[.int .i64 2,.int .i64 (v/4)],.int .i64 0]) (by simp only [results,Tryz.results71];go_simp) rfl ?_)
  exact ⟨d6 (by simp only [decT];omega) (by simp only [decX];omega) (by simp only [decE];omega),zF⟩
 ·((try simp only [Exit.inBlock,Exit.then]);refine bodyPost_ret (v:= .tuple #[.agg #[.int .i64 0,.int .i64 (0)],.int .i64 3]) (by simp only [results,Tryz.results71];go_simp) rfl ?_)
  exact ⟨d6 (by simp only [decT];omega) (by simp only [decX];omega) (by simp only [decE];omega),zF⟩
 ·((try simp only [Exit.inBlock,Exit.then]);refine bodyPost_ret (v:= .tuple #[.agg #[.int .i64 0,.int .i64 (0)],.int .i64 3]) (by simp only [results,Tryz.results71];go_simp) rfl ?_)
  exact ⟨d6 (by simp only [decT];omega) (by simp only [decX];omega) (by simp only [decE];omega),zF⟩
theorem yj {w:Int} (h0:0≤w) (h1:w < 18446744073709551616):(decT w=0∨decT w=1∨decT w=2)∧ -2305843009213693952≤decX w∧decX w≤2305843009213693951∧(decE w=0∨(decE w=3∧decT w=0)):=by
 simp only [decT,decX,decE]
 refine ⟨?_,?_,?_,?_⟩ <;>(repeat' split) <;>omega
theorem iE (a:Nat) (ha:a < 18446744073709551616):(BitVec.ofInt 64 (a:Int)).toNat=a:=by
 rw [BitVec.ofInt_natCast,BitVec.toNat_ofNat];exact Nat.mod_eq_of_lt oM
theorem pM (w m k:Nat) (hw:w < 2 ^ k) (hk:k≤64) (hm:2 ^ k*m < 18446744073709551616):bits .andNot .u64 (w:Int) ((2 ^ k*m:Nat):Int)=(w:Int):=by
 have hw64:w < 18446744073709551616:=Nat.lt_of_lt_of_le hw (by
  have:2 ^ k≤2 ^ 64:=Nat.pow_le_pow_right oM hk
  omega)
 have h1:=iE w hw64
 have h2:=iE (2 ^ k*m) hm
 show IntKind.u64.wrap ((BitVec.ofInt 64 (w:Int) &&& ~~~ BitVec.ofInt 64 ((2 ^ k*m:Nat):Int)).toNat:Int)=_
 rw [BitVec.toNat_and,BitVec.toNat_not,h1,h2,IntKind.wrap_u64]
 have h3:w &&& (2 ^ 64 - 1 - 2 ^ k*m)=w:=by
  apply Nat.eq_of_testBit_eq
  intro i
  rw [Nat.testBit_and,show 2 ^ 64 - 1 - 2 ^ k*m=2 ^ 64 - (2 ^ k*m+1)by omega,Nat.testBit_two_pow_sub_succ oM]
  by_cases hi:i < k
  ·rw [Nat.testBit_two_pow_mul]
   have:decide (i≥k)=false:=by simp;omega
   rw [this]
   simp
   intro _
   omega
  ·have:w.testBit i=false:=Nat.testBit_lt_two_pow (Nat.lt_of_lt_of_le hw (Nat.pow_le_pow_right oM oM))
   rw [this];rfl
 rw [h3]
 omega
theorem x3 (w x k:Nat) (hw:w < 2 ^ k) (h:w+2 ^ k*x < 18446744073709551616):bits .or .u64 (w:Int) ((2 ^ k*x:Nat):Int)=((w+2 ^ k*x:Nat):Int):=by
 rw [bits_or_u64_nat w (2 ^ k*x) oM oM,Nat.or_comm]
 have:=Nat.two_pow_add_eq_or_of_lt (i:=k) (b:=w) hw x
 rw [←this]
 omega
theorem vJ (w n:Nat) (hw:w < 18446744073709551616) (hn:n≤64):bits .and .u64 (w:Int) ((2 ^ n - 1:Nat):Int)=((w % 2 ^ n:Nat):Int):=by
 have h64:2 ^ n≤2 ^ 64:=Nat.pow_le_pow_right oM hn
 rw [bits_and_u64_nat w (2 ^ n - 1) hw oM,Nat.and_two_pow_sub_one_eq_mod]
theorem pO (x n:Nat) (hx:x < 2 ^ n) (hn:n≤64):bits .andNot .u64 (x:Int) ((2 ^ n - 1:Nat):Int)=0:=by
 have h64:2 ^ n≤2 ^ 64:=Nat.pow_le_pow_right oM hn
 have hx64:x < 18446744073709551616:=by omega
 have h1:=iE x hx64
 have h2:=iE (2 ^ n - 1) oM
 show IntKind.u64.wrap ((BitVec.ofInt 64 (x:Int) &&& ~~~ BitVec.ofInt 64 ((2 ^ n - 1:Nat):Int)).toNat:Int)=_
 rw [BitVec.toNat_and,BitVec.toNat_not,h1,h2,IntKind.wrap_u64]
 have h3:x &&& (2 ^ 64 - 1 - (2 ^ n - 1))=0:=by
  apply Nat.eq_of_testBit_eq
  intro i
  rw [Nat.testBit_and,show 2 ^ 64 - 1 - (2 ^ n - 1)=2 ^ 64 - ((2 ^ n - 1)+1)by omega,Nat.testBit_two_pow_sub_succ oM,Nat.testBit_two_pow_sub_one]
  by_cases hi:i < n
  ·simp [hi]
  ·have:x.testBit i=false:=Nat.testBit_lt_two_pow (Nat.lt_of_lt_of_le hx (Nat.pow_le_pow_right oM oM))
   rw [this];simp
 rw [h3]
 rfl
end Go.Proofs.YtphpppjfogpohaaGreat
namespace Go.Proofs.YtphpppjfogpohaaGreat
end Go.Proofs.YtphpppjfogpohaaGreat
