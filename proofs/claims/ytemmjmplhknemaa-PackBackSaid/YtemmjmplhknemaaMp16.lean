/- Merged by program (merge.py) out of: HdA, HdB. -/
import Derived.Test.YtemmjmplhknemaaMp2
import Derived.Test.YtemmjmplhknemaaMp4
set_option linter.unusedSimpArgs false
set_option linter.unusedVariables false
set_option maxRecDepth 100000
set_option maxHeartbeats 16000000
namespace Go.Proofs.Ytemmjmplhknemaa
open Go.RowKit
theorem part_is (at_ n:Nat) (h1:1≤n) (h2:at_+n≤64) (W:World):Calls Try.prog 83 #[.int .i64 at_,.int .i64 n] W fun e w'=>e= .returned (.bool true)∧Ext W w':=by
 have d1:decide ((0:Int)≤(at_:Int))=true:=by simp
 have d2:decide ((at_:Int) < 64)=true:=by simp;omega
 have d3:decide ((1:Int)≤(n:Int))=true:=by simp;omega
 go_enter Try.func83,Try.ntmps83
 go_wp2_with fail
 go_ret
 exact ⟨ret_bool (by simp;omega),Ext.refl _⟩
theorem wrap_pow (n:Nat) (h:n < 64):IntKind.u64.wrap ((2:Int) ^ n)=((2 ^ n:Nat):Int):=by
 have h64:2 ^ n≤2 ^ 63:=Nat.pow_le_pow_right (by omega) (by omega)
 rw [IntKind.wrap_u64,show (2:Int) ^ n=((2 ^ n:Nat):Int)by simp]
 generalize 2 ^ n=m at*
 omega
theorem pow_pos' (n:Nat):1≤2 ^ n:=Nat.one_le_two_pow
theorem mask_is (n:Nat) (h:n < 64) (W:World):Calls Try.prog 84 #[.int .i64 n] W fun e w'=>e= .returned (.int .u64 ((2 ^ n - 1:Nat):Int))∧Ext W w':=by
 have d1:decide ((64:Int)≤(n:Int))=false:=by simp;omega
 go_enter Try.func84,Try.ntmps84
 go_wp2_with fail
 go_ret
 refine ⟨?_,Ext.refl _⟩
 rw [wrap_pow n h]
 have h64:2 ^ n≤2 ^ 63:=Nat.pow_le_pow_right (by omega) (by omega)
 have:=pow_pos' n
 rw [IntKind.wrap_u64]
 generalize 2 ^ n=m at*
 exact ret_int (by omega)
theorem get_is (w at_ n:Nat) (h1:1≤n) (hn:n < 64) (h2:at_+n≤64) (hw:w < 18446744073709551616) (W:World):Calls Try.prog 76 #[.int .u64 w,.int .i64 at_,.int .i64 n] W fun e w'=>e= .returned (.tuple #[.int .u64 ((w/2 ^ at_ % 2 ^ n:Nat):Int),.bool true])∧Ext W w':=by
 have hW:=Ext.refl W
 go_enter Try.func76,Try.ntmps76
 go_wp2_with ((go_at_call 83;refine (part_is at_ n h1 h2 _).mono ?_;rintro e w1 ⟨rfl,hx0⟩;have hx:=Ext.trans (a:=W) (by with_reducible assumption) hx0;clear hx0))
 clear hW
 (refine wp_region_seg (W:=W) [] [(0,true),(1,true),(2,true),(3,true),(4,false),(5,true),(6,true),(7,true)] [] (by kernel_rfl) (by kernel_rfl) (by intro c a d v w h;cases d <;>first | exact h | (cases h;done) | cases h.1.1 | cases h.1) (by with_reducible assumption) ?_;simp only [opsOf,List.map_cons,List.map_nil,List.getD_cons_zero,List.getD_cons_succ])
 ((first | refine seg_cons ?_ | refine seg_last ?_);(repeat (go_big_quiet_step (first | (go_at_call 84;with_reducible exact Calls.ext_of (mask_is n hn _)))));refine wpQuiet_nil ?_;intro w1 hx)
 go_wp2_with fail
 go_ret2
 refine ⟨?_,hx⟩
 have h3:=and_mask (w/2 ^ at_) n (Nat.lt_of_le_of_lt (Nat.div_le_self _ _) hw) (by omega)
 have h4:((w/2 ^ at_:Nat):Int)=(w:Int)/2 ^ at_:=by simp
 rw [h4]at h3
 rw [h3];rfl
theorem put_is (w at_ n x:Nat) (h1:1≤n) (hn:n < 64) (h2:at_+n≤64) (hw:w < 2 ^ at_) (hx0:x < 2 ^ n) (W:World):Calls Try.prog 79 #[.int .u64 w,.int .i64 at_,.int .i64 n,.int .u64 x] W fun e w'=>e= .returned (.tuple #[.int .u64 ((w+2 ^ at_*x:Nat):Int),.bool true])∧Ext W w':=by
 have hW:=Ext.refl W
 have ha:=andNot_mask x n hx0 (by omega)
 go_enter Try.func79,Try.ntmps79
 go_wp2_with (first | (go_at_call 83;refine (part_is at_ n h1 h2 _).mono ?_;rintro e w1 ⟨rfl,hx0⟩;have hx:=Ext.trans (a:=W) (by with_reducible assumption) hx0;clear hx0) | (go_at_call 84;refine (mask_is n hn _).mono ?_;rintro e w1 ⟨rfl,hx0⟩;have hx:=Ext.trans (a:=W) (by with_reducible assumption) hx0;clear hx0))
 (refine wp_region_seg (W:=W) [] [(0,true),(1,true),(3,true),(6,true),(7,true),(8,true),(2,false),(4,true),(5,true),(9,true),(10,true),(11,true)] [] (by kernel_rfl) (by kernel_rfl) (by intro c a d v w h;cases d <;>first | exact h | (cases h;done) | cases h.1.1 | cases h.1) (by with_reducible assumption) ?_;simp only [opsOf,List.map_cons,List.map_nil,List.getD_cons_zero,List.getD_cons_succ])
 ((first | refine seg_cons ?_ | refine seg_last ?_);(repeat (go_big_quiet_step (first | (go_at_call 84;with_reducible exact Calls.ext_of (mask_is n hn _)))));refine wpQuiet_nil ?_;intro w1 hx)
 go_wp2_with fail
 go_ret2
 refine ⟨?_,hx⟩
 have hp:2 ^ at_*2 ^ n≤2 ^ 64:=by rw [←Nat.pow_add];exact Nat.pow_le_pow_right (by omega) h2
 have hq:=pow_pos' n
 have hr:=pow_pos' at_
 have hm:∀y:Nat,y < 2 ^ n→2 ^ at_*y+2 ^ at_≤2 ^ 64:=fun y hy=>by
  have:2 ^ at_*(y+1)≤2 ^ at_*2 ^ n:=Nat.mul_le_mul_left _ hy
  rw [Nat.mul_add,Nat.mul_one]at this
  omega
 have hwr:∀y:Nat,y < 2 ^ n→IntKind.u64.wrap ((y:Int)*2 ^ at_)=((2 ^ at_*y:Nat):Int):=fun y hy=>by
  have h5:=hm y hy
  rw [IntKind.wrap_u64,show (y:Int)*2 ^ at_=((2 ^ at_*y:Nat):Int)by rw [Nat.mul_comm];simp]
  generalize 2 ^ at_*y=m at*
  omega
 have e1:=hm (2 ^ n - 1) (by omega)
 have e2:=hm x hx0
 rw [hwr (2 ^ n - 1) (by omega),hwr x hx0,andNot_high w (2 ^ n - 1) at_ hw (by omega) (by omega),or_high w x at_ hw (by omega)]
 rfl
structure Hd where
 k:Int
 f:Int
 r:Int
 m:Bool
 c:Int
def pAt (k:Nat):Nat:= [2,3,8,24,40,64].getD k 0
def pN (k:Nat):Nat:= [1,5,16,16,24].getD k 1
def pMost (k:Nat):Nat:= [1,31,4096,4096,1048576].getD k 0
def numsL (h:Hd):List Int:= [if h.m then 1 else 0,h.k,h.f,h.r,h.c]
def nz (h:Hd) (i:Nat):Int:=(numsL h).getD i 0
def hmayB (h:Hd):Bool:=decide (0≤h.k∧h.k≤31∧0≤h.f∧h.f≤4096∧0≤h.r∧h.r≤4096∧0≤h.c∧h.c≤1048576)
def encP (h:Hd):Nat→Nat
 | 0=>3
 | k+1=>encP h k+2 ^ pAt k*(nz h k).toNat
def hwordN (h:Hd):Nat:=3+4*(if h.m then 1 else 0)+8*h.k.toNat+256*h.f.toNat+16777216*h.r.toNat+1099511627776*h.c.toNat
def hwordZ (h:Hd):Int:=if hmayB h then hwordN h else 0
def herrZ (h:Hd):Int:=if hmayB h then 0 else 1
theorem p_step (k:Nat) (hk:k < 5):pAt (k+1)=pAt k+pN k∧1≤pN k∧pN k < 64∧pAt k+pN k≤64∧pMost k < 2 ^ pN k:=by
 have:k=0∨k=1∨k=2∨k=3∨k=4:=by omega
 rcases this with rfl | rfl | rfl | rfl | rfl <;>decide
def fineTo (h:Hd) (k:Nat):Prop:=∀i,i < k→0≤nz h i∧nz h i≤pMost i
theorem encP_lt (h:Hd):∀k,k≤5→fineTo h k→encP h k < 2 ^ pAt k:=by
 intro k
 induction k with
 | zero=>intro _ _;show 3 < 2 ^ pAt 0;decide
 | succ k ih=>
  intro hk hf
  obtain ⟨h1,h2,h3,h4,h5⟩:=p_step k (by omega)
  have h6:=ih (by omega) fun i hi=>hf i (by omega)
  obtain ⟨h7,h8⟩:=hf k (by omega)
  rw [h1,Nat.pow_add]
  have h9:(nz h k).toNat+1≤2 ^ pN k:=by omega
  have:=Nat.mul_le_mul_left (2 ^ pAt k) h9
  rw [Nat.mul_add,Nat.mul_one]at this
  show encP h k+2 ^ pAt k*(nz h k).toNat < _
  omega
theorem fine_may (h:Hd):fineTo h 5↔hmayB h=true:=by
 simp only [hmayB,decide_eq_true_eq]
 constructor
 ·intro hf
  have h1:=hf 1 (by omega)
  have h2:=hf 2 (by omega)
  have h3:=hf 3 (by omega)
  have h4:=hf 4 (by omega)
  simp [nz,numsL,pMost]at h1 h2 h3 h4
  omega
 ·intro hm i hi
  have:i=0∨i=1∨i=2∨i=3∨i=4:=by omega
  rcases this with rfl | rfl | rfl | rfl | rfl <;>simp [nz,numsL,pMost] <;>(try split) <;>(try omega)
theorem encP_all (h:Hd):encP h 5=hwordN h:=by
 simp only [encP,nz,numsL,pAt,hwordN,List.getD_cons_zero,List.getD_cons_succ]
 cases h.m <;>simp <;>omega
theorem may_not (h:Hd) {k:Nat} (hk:k < 5) (hn:¬(0≤nz h k∧nz h k≤pMost k)):hmayB h=false:=by
 cases e:hmayB h with
 | false=>rfl
 | true=>exact absurd ((fine_may h).2 e k hk) hn
theorem hparts_any (W:World):Calls Try.prog 75 #[] W fun e w'=>e= .returned (.agg #[.int .i64 2,.int .i64 1,.int .i64 1,.int .i64 3,.int .i64 5,.int .i64 31,.int .i64 8,.int .i64 16,.int .i64 4096,.int .i64 24,.int .i64 16,.int .i64 4096,.int .i64 40,.int .i64 24,.int .i64 1048576])∧Ext W w':=by
 go_enter Try.func75,Try.ntmps75
 go_wp2_with fail
 ((try simp only [Exit.inBlock,Exit.then]);refine bodyPost_ret (v:= .agg #[.int .i64 2,.int .i64 1,.int .i64 1,.int .i64 3,.int .i64 5,.int .i64 31,.int .i64 8,.int .i64 16,.int .i64 4096,.int .i64 24,.int .i64 16,.int .i64 4096,.int .i64 40,.int .i64 24,.int .i64 1048576]) (by simp only [results,Try.results75];go_simp) rfl ?_)
 exact ⟨rfl,(Ext.refl _).alloc _⟩
theorem numbers_any (h:Hd) (W:World):Calls Try.prog 78 #[.agg #[.int .i64 h.k,.int .i64 h.f,.int .i64 h.r,.bool h.m,.int .i64 h.c]] W fun e w'=>e= .returned (.agg #[.int .i64 (nz h 0),.int .i64 (nz h 1),.int .i64 (nz h 2),.int .i64 (nz h 3),.int .i64 (nz h 4)])∧Ext W w':=by
 obtain ⟨k,f,r,m,c⟩:=h
 go_enter Try.func78,Try.ntmps78
 cases m
 ·go_wp2_with fail
  ((try simp only [Exit.inBlock,Exit.then]);refine bodyPost_ret (v:= .agg #[.int .i64 0,.int .i64 k,.int .i64 f,.int .i64 r,.int .i64 c]) (by simp only [results,Try.results78];go_simp) rfl ?_)
  exact ⟨rfl,((Ext.refl _).alloc _).alloc _⟩
 ·go_wp2_with fail
  ((try simp only [Exit.inBlock,Exit.then]);refine bodyPost_ret (v:= .agg #[.int .i64 1,.int .i64 k,.int .i64 f,.int .i64 r,.int .i64 c]) (by simp only [results,Try.results78];go_simp) rfl ?_)
  exact ⟨rfl,((Ext.refl _).alloc _).alloc _⟩
theorem index_parts (k:Nat) (hk:k < 5) (w:World):(Instr.index 136 (.agg #[.int .i64 2,.int .i64 1,.int .i64 1,.int .i64 3,.int .i64 5,.int .i64 31,.int .i64 8,.int .i64 16,.int .i64 4096,.int .i64 24,.int .i64 16,.int .i64 4096,.int .i64 40,.int .i64 24,.int .i64 1048576]) (.int .i64 (k:Int))).run Try.prog w= .ok (.agg #[.int .i64 (pAt k:Nat),.int .i64 (pN k:Nat),.int .i64 (pMost k:Nat)]) w:=by
 have:k=0∨k=1∨k=2∨k=3∨k=4:=by omega
 rcases this with rfl | rfl | rfl | rfl | rfl <;>(unfold Instr.index;go_simp;first | rfl | exact ⟨rfl,rfl,rfl⟩)
end Go.Proofs.Ytemmjmplhknemaa
