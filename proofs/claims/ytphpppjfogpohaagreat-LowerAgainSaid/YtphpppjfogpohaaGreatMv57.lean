/- Merged by program (merge.py) out of: AwU, AwV, AwX, LwLw, LowF, LwLc. -/
import Derived.Test.YtphpppjfogpohaaGreatMv56
import Derived.Test.YtphpppjfogpohaaGreatMv54
import Derived.Test.YtphpppjfogpohaaGreatMv36
import Derived.Test.YtphpppjfogpohaaGreatMv26
import Derived.Test.YtphpppjfogpohaaGreatMv55
import Derived.Test.YtphpppjfogpohaaGreatMv48
set_option linter.unusedSimpArgs false
set_option linter.unusedVariables false
set_option maxRecDepth 100000
set_option maxHeartbeats 16000000
namespace Go.Proofs.YtphpppjfogpohaaGreat
open Go.RowKit Go.Shelf
def aw20n (rb:Nat):List NodeD:= [⟨0,none,0,[],none,0,[]⟩,⟨0,none,0,[],some ⟨rb,0,none⟩,2,[1,2]⟩,⟨1,none,0,[],none,0,[]⟩]
def aw20 (nb rb:Nat) (qA:Option Addr) (qc:Nat) (rs:List (Int×Int)):GraphD:=⟨some ⟨nb,0,none⟩,3,aw20n rb,qA,qc,rs⟩
def aw20w:List Int:= [3,11,0,0,0,0,0,0,33554435,1,2]
theorem aw20_cf:cfgB 4 3 1 2=true:=by decide
theorem aw20_rt (nb rb:Nat) (qA:Option Addr) (qc:Nat):rightG (aw20 nb rb qA qc [(2,1)])=true:=by kernel_rfl
theorem aw20_a (nb rb:Nat) (qA:Option Addr) (qc:Nat):(lwAll 4 3 1 2 false (aw20 nb rb qA qc [(2,1)])).isSome=true∧(lwAll 4 3 1 2 true (aw20 nb rb qA qc [(2,1)])).isSome=true:=⟨by kernel_rfl,by kernel_rfl⟩
theorem aw20_z {sn:Bool} {G:GraphD} (h2:rightG G=true) (h3:G.rs.length=1) (h:(lwAll 4 3 1 2 sn G).isSome=true):layE 4 3 1 2 sn G=0:=by
 unfold layE
 rw [aw20_cf,h2,h3]
 cases h4:lwAll 4 3 1 2 sn G with
 | none=>rw [h4]at h;cases h
 | some x=>rfl
theorem aw20_e (nb rb:Nat) (qA:Option Addr) (qc:Nat):layE 4 3 1 2 false (aw20 nb rb qA qc [(2,1)])=0∧layE 4 3 1 2 true (aw20 nb rb qA qc [(2,1)])=0:=⟨aw20_z (aw20_rt _ _ _ _) rfl (aw20_a _ _ _ _).1,aw20_z (aw20_rt _ _ _ _) rfl (aw20_a _ _ _ _).2⟩
theorem aw20_e2 (nb rb:Nat) (qA:Option Addr) (qc:Nat):layE 4 3 1 2 false (aw20 nb rb qA qc [(2,1),(0,0)])=8:=by kernel_rfl
def lwT (s:LwS):Int×Int×List Int×List (Int×Int):=(s.top,s.u,s.pl,s.tb)
theorem lwT_inj {s t:LwS} (h:lwT s=lwT t):s=t:=by
 cases s;cases t
 simp only [lwT,Prod.mk.injEq]at h
 obtain ⟨rfl,rfl,rfl,rfl⟩:=h
 rfl
theorem lwT_some {a:Option LwS} {t:LwS} (h:a.map lwT=some (lwT t)):a=some t:=by
 cases a with
 | none=>cases h
 | some s=>exact congrArg some (lwT_inj (Option.some.inj h))
def aw20m:List NodeD:= [⟨0,none,0,[],none,0,[]⟩,⟨0,none,0,[],none,0,[1,2]⟩,⟨1,none,0,[],none,0,[]⟩]
theorem aw20_sz0:aw20m.map sizeN= [1,3,1]:=by decide+kernel
theorem aw20_sz (nb rb:Nat) (qA:Option Addr) (qc:Nat):(aw20 nb rb qA qc [(2,1)]).ns.map sizeN= [1,3,1]:=(show (aw20 nb rb qA qc [(2,1)]).ns.map sizeN=aw20m.map sizeN from rfl).trans aw20_sz0
theorem aw20_l0:(lwRun 4 3 1 2 false (lwS0 4 3 1 2 false) [1,3,1]).map lwT=some (2,3,[0,8,1],[(8,3)]):=by decide+kernel
theorem aw20_l1 (nb rb:Nat) (qA:Option Addr) (qc:Nat):lwAll 4 3 1 2 false (aw20 nb rb qA qc [(2,1)])=some ⟨2,3,[0,8,1],[(8,3)]⟩:=by
 unfold lwAll
 rw [aw20_sz]
 exact lwT_some aw20_l0
theorem aw20_l2 {sn:Bool} {G:GraphD} {x:LwS} (h1:layE 4 3 1 2 sn G=0) (h:lwAll 4 3 1 2 sn G=some x):layS 4 3 1 2 sn G=x:=by
 unfold layS
 rw [if_pos h1,h]
 rfl
theorem aw20_l (nb rb:Nat) (qA:Option Addr) (qc:Nat):layS 4 3 1 2 false (aw20 nb rb qA qc [(2,1)])=⟨2,3,[0,8,1],[(8,3)]⟩:=aw20_l2 (aw20_e nb rb qA qc).1 (aw20_l1 nb rb qA qc)
theorem aw20_w (rb:Nat):lwW [0,8,1] ((aw20n rb).zip [0,8,1]) (List.replicate (wordsZ 4 3 1 2).toNat 0)=aw20w:=by
 have h:∀ws:List Int,lwW [0,8,1] ((aw20n rb).zip [0,8,1]) ws=lwW [0,8,1] (aw20m.zip [0,8,1]) ws:=fun ws=>rfl
 rw [h]
 decide+kernel
theorem aw20_fr:frL (largeA 4 3 1 2) (largeS 4 3 1 2) 3= []:=by decide
theorem aw20_sl:lwSl [0,8,1] [(2,1)] (1:Int).toNat 1= [(true,0,34)]:=by decide
theorem aw20_st (nb rb:Nat) (qA:Option Addr) (qc:Nat):lwSt 4 3 1 2 false (aw20 nb rb qA qc [(2,1)])=⟨4,3,1,2,false,none,aw20w,0,2,none,[(8,3)],0,none,[],0,none,[(true,0,34)],0⟩:=by
 unfold lwSt
 rw [if_pos (aw20_e nb rb qA qc).1,aw20_l]
 have e1:=aw20_w rb
 have e2:=aw20_fr
 have e3:=aw20_sl
 show StD.mk 4 3 1 2 false none (lwW [0,8,1] ((aw20n rb).zip [0,8,1]) (List.replicate (wordsZ 4 3 1 2).toNat 0)) 0 2 none [(8,3)] 0 none (frL (largeA 4 3 1 2) (largeS 4 3 1 2) 3) 0 none (lwSl [0,8,1] [(2,1)] (1:Int).toNat 1) 0=_
 rw [e1,e2,e3]
theorem aw20_pl (nb rb:Nat) (qA:Option Addr) (qc:Nat):(layS 4 3 1 2 true (aw20 nb rb qA qc [(2,1)])).pl= [4,8,5]:=by kernel_rfl
theorem aw20_led:ledR (largeA 4 3 1 2) (largeS 4 3 1 2) [(8,3)] []=true:=by
 rw [ledR_of (ys:= []) (by decide) ⟨by simp,by simp,fun p=>by
  simp only [List.not_mem_nil,false_and,exists_false,false_iff]
  rintro ⟨h1,h2⟩
  have e1:largeA 4 3 1 2=8:=by decide
  have e2:largeS 4 3 1 2=3:=by decide
  rw [e1,e2]at h1
  simp only [coveredB,List.any_cons,List.any_nil,Bool.or_false]at h2
  rw [h1]at h2
  cases h2⟩]
 rfl
theorem aw20_ck:checkZ 4 3 1 2 false aw20w 2 [(8,3)] [] [(true,0,34)]=0:=by rw [check_led aw20_led];decide+kernel
theorem aw20_lit (V:World):GraphAt (((((V.alloc (.cells #[.int .i64 4,.int .i64 3,.int .i64 1,.int .i64 2] 23)).alloc (.cells #[.int .u64 1,.int .u64 2] 61)).alloc (.cells #[.int .i64 0,.slice none 0 0,.slice none 0 0,.int .i64 0,.slice none 0 0,.slice (some ⟨V.heap.size+1,0,none⟩) 2 2,.int .i64 1,.slice none 0 0,.slice none 0 0] 66)).alloc (.cells #[.int .i64 2,.int .i64 1] 71)).alloc (.cells #[.slice (some ⟨V.heap.size+1+1,0,none⟩) 3 3,.slice (some ⟨V.heap.size+1+1+1,0,none⟩) 1 1] 27)) (aw20 (V.heap.size+1+1) (V.heap.size+1) (some ⟨V.heap.size+1+1+1,0,none⟩) 1 [(2,1)])∧(((((V.alloc (.cells #[.int .i64 4,.int .i64 3,.int .i64 1,.int .i64 2] 23)).alloc (.cells #[.int .u64 1,.int .u64 2] 61)).alloc (.cells #[.int .i64 0,.slice none 0 0,.slice none 0 0,.int .i64 0,.slice none 0 0,.slice (some ⟨V.heap.size+1,0,none⟩) 2 2,.int .i64 1,.slice none 0 0,.slice none 0 0] 66)).alloc (.cells #[.int .i64 2,.int .i64 1] 71)).alloc (.cells #[.slice (some ⟨V.heap.size+1+1,0,none⟩) 3 3,.slice (some ⟨V.heap.size+1+1+1,0,none⟩) 1 1] 27)).heap[V.heap.size+1+1+1+1]?=some (.cells #[.slice (some ⟨V.heap.size+1+1,0,none⟩) 3 3,.slice (some ⟨V.heap.size+1+1+1,0,none⟩) 1 1] 27 (0,0))∧(((((V.alloc (.cells #[.int .i64 4,.int .i64 3,.int .i64 1,.int .i64 2] 23)).alloc (.cells #[.int .u64 1,.int .u64 2] 61)).alloc (.cells #[.int .i64 0,.slice none 0 0,.slice none 0 0,.int .i64 0,.slice none 0 0,.slice (some ⟨V.heap.size+1,0,none⟩) 2 2,.int .i64 1,.slice none 0 0,.slice none 0 0] 66)).alloc (.cells #[.int .i64 2,.int .i64 1] 71)).alloc (.cells #[.slice (some ⟨V.heap.size+1+1,0,none⟩) 3 3,.slice (some ⟨V.heap.size+1+1+1,0,none⟩) 1 1] 27)).heap[V.heap.size]?=some (.cells #[.int .i64 4,.int .i64 3,.int .i64 1,.int .i64 2] 23 (0,0))∧(((((V.alloc (.cells #[.int .i64 4,.int .i64 3,.int .i64 1,.int .i64 2] 23)).alloc (.cells #[.int .u64 1,.int .u64 2] 61)).alloc (.cells #[.int .i64 0,.slice none 0 0,.slice none 0 0,.int .i64 0,.slice none 0 0,.slice (some ⟨V.heap.size+1,0,none⟩) 2 2,.int .i64 1,.slice none 0 0,.slice none 0 0] 66)).alloc (.cells #[.int .i64 2,.int .i64 1] 71)).alloc (.cells #[.slice (some ⟨V.heap.size+1+1,0,none⟩) 3 3,.slice (some ⟨V.heap.size+1+1+1,0,none⟩) 1 1] 27)).heap[V.heap.size+1+1+1]?=some (.cells #[.int .i64 2,.int .i64 1] 71 (0,0))∧Ext V (((((V.alloc (.cells #[.int .i64 4,.int .i64 3,.int .i64 1,.int .i64 2] 23)).alloc (.cells #[.int .u64 1,.int .u64 2] 61)).alloc (.cells #[.int .i64 0,.slice none 0 0,.slice none 0 0,.int .i64 0,.slice none 0 0,.slice (some ⟨V.heap.size+1,0,none⟩) 2 2,.int .i64 1,.slice none 0 0,.slice none 0 0] 66)).alloc (.cells #[.int .i64 2,.int .i64 1] 71)).alloc (.cells #[.slice (some ⟨V.heap.size+1+1,0,none⟩) 3 3,.slice (some ⟨V.heap.size+1+1+1,0,none⟩) 1 1] 27))∧(((((V.alloc (.cells #[.int .i64 4,.int .i64 3,.int .i64 1,.int .i64 2] 23)).alloc (.cells #[.int .u64 1,.int .u64 2] 61)).alloc (.cells #[.int .i64 0,.slice none 0 0,.slice none 0 0,.int .i64 0,.slice none 0 0,.slice (some ⟨V.heap.size+1,0,none⟩) 2 2,.int .i64 1,.slice none 0 0,.slice none 0 0] 66)).alloc (.cells #[.int .i64 2,.int .i64 1] 71)).alloc (.cells #[.slice (some ⟨V.heap.size+1+1,0,none⟩) 3 3,.slice (some ⟨V.heap.size+1+1+1,0,none⟩) 1 1] 27)).heap.size=V.heap.size+1+1+1+1+1:=by
 have g0:=blk_new V #[.int .i64 4,.int .i64 3,.int .i64 1,.int .i64 2] 23 (V.heap.size) (by simp)
 have g1:=blk_new (V.alloc (.cells #[.int .i64 4,.int .i64 3,.int .i64 1,.int .i64 2] 23)) #[.int .u64 1,.int .u64 2] 61 (V.heap.size+1) (by simp)
 replace g0:=blk_old (o2:= .cells #[.int .u64 1,.int .u64 2] 61) g0
 have g2:=blk_new ((V.alloc (.cells #[.int .i64 4,.int .i64 3,.int .i64 1,.int .i64 2] 23)).alloc (.cells #[.int .u64 1,.int .u64 2] 61)) #[.int .i64 0,.slice none 0 0,.slice none 0 0,.int .i64 0,.slice none 0 0,.slice (some ⟨V.heap.size+1,0,none⟩) 2 2,.int .i64 1,.slice none 0 0,.slice none 0 0] 66 (V.heap.size+1+1) (by simp)
 replace g0:=blk_old (o2:= .cells #[.int .i64 0,.slice none 0 0,.slice none 0 0,.int .i64 0,.slice none 0 0,.slice (some ⟨V.heap.size+1,0,none⟩) 2 2,.int .i64 1,.slice none 0 0,.slice none 0 0] 66) g0
 replace g1:=blk_old (o2:= .cells #[.int .i64 0,.slice none 0 0,.slice none 0 0,.int .i64 0,.slice none 0 0,.slice (some ⟨V.heap.size+1,0,none⟩) 2 2,.int .i64 1,.slice none 0 0,.slice none 0 0] 66) g1
 have g3:=blk_new (((V.alloc (.cells #[.int .i64 4,.int .i64 3,.int .i64 1,.int .i64 2] 23)).alloc (.cells #[.int .u64 1,.int .u64 2] 61)).alloc (.cells #[.int .i64 0,.slice none 0 0,.slice none 0 0,.int .i64 0,.slice none 0 0,.slice (some ⟨V.heap.size+1,0,none⟩) 2 2,.int .i64 1,.slice none 0 0,.slice none 0 0] 66)) #[.int .i64 2,.int .i64 1] 71 (V.heap.size+1+1+1) (by simp)
 replace g0:=blk_old (o2:= .cells #[.int .i64 2,.int .i64 1] 71) g0
 replace g1:=blk_old (o2:= .cells #[.int .i64 2,.int .i64 1] 71) g1
 replace g2:=blk_old (o2:= .cells #[.int .i64 2,.int .i64 1] 71) g2
 have g4:=blk_new ((((V.alloc (.cells #[.int .i64 4,.int .i64 3,.int .i64 1,.int .i64 2] 23)).alloc (.cells #[.int .u64 1,.int .u64 2] 61)).alloc (.cells #[.int .i64 0,.slice none 0 0,.slice none 0 0,.int .i64 0,.slice none 0 0,.slice (some ⟨V.heap.size+1,0,none⟩) 2 2,.int .i64 1,.slice none 0 0,.slice none 0 0] 66)).alloc (.cells #[.int .i64 2,.int .i64 1] 71)) #[.slice (some ⟨V.heap.size+1+1,0,none⟩) 3 3,.slice (some ⟨V.heap.size+1+1+1,0,none⟩) 1 1] 27 (V.heap.size+1+1+1+1) (by simp)
 replace g0:=blk_old (o2:= .cells #[.slice (some ⟨V.heap.size+1+1,0,none⟩) 3 3,.slice (some ⟨V.heap.size+1+1+1,0,none⟩) 1 1] 27) g0
 replace g1:=blk_old (o2:= .cells #[.slice (some ⟨V.heap.size+1+1,0,none⟩) 3 3,.slice (some ⟨V.heap.size+1+1+1,0,none⟩) 1 1] 27) g1
 replace g2:=blk_old (o2:= .cells #[.slice (some ⟨V.heap.size+1+1,0,none⟩) 3 3,.slice (some ⟨V.heap.size+1+1+1,0,none⟩) 1 1] 27) g2
 replace g3:=blk_old (o2:= .cells #[.slice (some ⟨V.heap.size+1+1,0,none⟩) 3 3,.slice (some ⟨V.heap.size+1+1+1,0,none⟩) 1 1] 27) g3
 refine ⟨⟨⟨row_block g2 rfl nodeCells (by decide),fun x hx=> ?_⟩,row_block g3 rfl spanCells (by decide)⟩,g4,g0,g3,(((((Ext.refl V).alloc _).alloc _).alloc _).alloc _).alloc _,by simp⟩
 simp only [aw20,aw20n,List.mem_cons,List.not_mem_nil,or_false]at hx
 rcases hx with rfl | rfl | rfl
 ·exact ⟨RowAt.none _ _ _,RowAt.none _ _ _⟩
 ·exact ⟨RowAt.none _ _ _,row_block g1 rfl u64Cells (by decide)⟩
 ·exact ⟨RowAt.none _ _ _,RowAt.none _ _ _⟩
theorem aw20_ok {nb rb:Nat} {qA:Option Addr} {qc:Nat} {rs:List (Int×Int)} (h1:qA≠none) (h2:rs.length≤qc) (h3:rs.length≤1000) (h4:∀v∈rs,(-9223372036854775808≤v.1∧v.1≤9223372036854775807)∧(-9223372036854775808≤v.2∧v.2≤9223372036854775807)):GOk (aw20 nb rb qA qc rs):=by
 refine ⟨⟨by simp [aw20,aw20n],by show rs.length≤_;omega,fun h=>by simp [aw20]at h,fun h=>absurd h h1,by simp [aw20,aw20n],h2,fun n hn=> ?_,h4⟩,by simp [aw20,aw20n],h3⟩
 simp only [aw20,aw20n,List.mem_cons,List.not_mem_nil,or_false]at hn
 rcases hn with rfl | rfl | rfl
 ·exact ⟨by simp,by simp,by simp,by simp,by simp,by simp,by simp,by simp,by simp⟩
 ·exact ⟨by simp,by simp,by simp,by simp,by simp,by simp,by simp,by simp,by simp⟩
 ·exact ⟨by simp,by simp,by simp,by simp,by simp,by simp,by simp,by simp,by simp⟩
theorem aw20_lw (nb rb:Nat) (qA:Option Addr) (qc:Nat) (V:World) (hG:GraphAt V (aw20 nb rb qA qc [(2,1)])) (oG:GOk (aw20 nb rb qA qc [(2,1)])):Calls Tryz.prog 11 #[.agg #[.int .i64 (4),.int .i64 (3),.int .i64 (1),.int .i64 (2)],.bool false,.agg #[.slice (aw20 nb rb qA qc [(2,1)]).nA (aw20 nb rb qA qc [(2,1)]).ns.length (aw20 nb rb qA qc [(2,1)]).ncap,.slice (aw20 nb rb qA qc [(2,1)]).rA (aw20 nb rb qA qc [(2,1)]).rs.length (aw20 nb rb qA qc [(2,1)]).rcap]] V fun e w'=>∃t:StD,e= .returned (.tuple #[.agg #[.int .i64 t.c0,.int .i64 t.c1,.int .i64 t.c2,.int .i64 t.c3,.bool t.snd,.slice t.wA t.ws.length t.wc,.int .i64 t.top,.slice t.tA t.tb.length t.tc,.slice t.fA t.fr.length t.fc,.slice t.sA t.sl.length t.sc],.int .i64 0])∧StOwn V.heap.size w' t∧(t.c0=4∧t.c1=3∧t.c2=1∧t.c3=2∧t.snd=false∧t.top=2∧t.ws=aw20w∧t.tb= [(8,3)]∧t.fr= []∧t.sl= [(true,0,34)])∧Ext V w':=by
 refine (lower_any 4 3 1 2 false (aw20 nb rb qA qc [(2,1)]) V hG oG).mono ?_
 rintro e w' ⟨t,rfl,h1,h2,h3⟩
 rw [aw20_st,eqvS_iff]at h2
 rw [(aw20_e nb rb qA qc).1]
 obtain ⟨⟨a,b,c,d⟩,f,g,h,i,j,k⟩:=h2
 exact ⟨t,rfl,h1,⟨a,b,c,d,f,g,h,i,j,k⟩,h3⟩
theorem aw20_lw2 (nb rb:Nat) (qA:Option Addr) (qc:Nat) (V:World) (hG:GraphAt V (aw20 nb rb qA qc [(2,1),(0,0)])) (oG:GOk (aw20 nb rb qA qc [(2,1),(0,0)])):Calls Tryz.prog 11 #[.agg #[.int .i64 (4),.int .i64 (3),.int .i64 (1),.int .i64 (2)],.bool false,.agg #[.slice (aw20 nb rb qA qc [(2,1),(0,0)]).nA (aw20 nb rb qA qc [(2,1),(0,0)]).ns.length (aw20 nb rb qA qc [(2,1),(0,0)]).ncap,.slice (aw20 nb rb qA qc [(2,1),(0,0)]).rA (aw20 nb rb qA qc [(2,1),(0,0)]).rs.length (aw20 nb rb qA qc [(2,1),(0,0)]).rcap]] V fun e w'=>∃t:StD,e= .returned (.tuple #[.agg #[.int .i64 t.c0,.int .i64 t.c1,.int .i64 t.c2,.int .i64 t.c3,.bool t.snd,.slice t.wA t.ws.length t.wc,.int .i64 t.top,.slice t.tA t.tb.length t.tc,.slice t.fA t.fr.length t.fc,.slice t.sA t.sl.length t.sc],.int .i64 8])∧Ext V w':=by
 refine (lower_any 4 3 1 2 false (aw20 nb rb qA qc [(2,1),(0,0)]) V hG oG).mono ?_
 rintro e w' ⟨t,rfl,h1,h2,h3⟩
 rw [aw20_e2]
 exact ⟨t,rfl,h3⟩
theorem aw20_pp (nb rb:Nat) (qA:Option Addr) (qc:Nat) (V:World) (hG:GraphAt V (aw20 nb rb qA qc [(2,1)])) (oG:GOk (aw20 nb rb qA qc [(2,1)])):Calls Tryz.prog 13 #[.agg #[.int .i64 (4),.int .i64 (3),.int .i64 (1),.int .i64 (2)],.bool true,.agg #[.slice (aw20 nb rb qA qc [(2,1)]).nA (aw20 nb rb qA qc [(2,1)]).ns.length (aw20 nb rb qA qc [(2,1)]).ncap,.slice (aw20 nb rb qA qc [(2,1)]).rA (aw20 nb rb qA qc [(2,1)]).rs.length (aw20 nb rb qA qc [(2,1)]).rcap]] V fun e w'=>∃A cap,e= .returned (.tuple #[.slice A 3 cap,.int .i64 0])∧IntsAt w' A [4,8,5]∧Ext V w':=by
 have h:=places_any 4 3 1 2 true (aw20 nb rb qA qc [(2,1)]) V hG oG
 rw [aw20_pl,(aw20_e nb rb qA qc).2]at h
 exact h
theorem aw20_ff (nb rb:Nat) (qA:Option Addr) (qc:Nat) (V:World) (hG:GraphAt V (aw20 nb rb qA qc [(2,1),(0,0)])) (oG:GOk (aw20 nb rb qA qc [(2,1),(0,0)])):Calls Tryz.prog 17 #[.agg #[.int .i64 (4),.int .i64 (3),.int .i64 (1),.int .i64 (2)],.agg #[.slice (aw20 nb rb qA qc [(2,1),(0,0)]).nA (aw20 nb rb qA qc [(2,1),(0,0)]).ns.length (aw20 nb rb qA qc [(2,1),(0,0)]).ncap,.slice (aw20 nb rb qA qc [(2,1),(0,0)]).rA (aw20 nb rb qA qc [(2,1),(0,0)]).rs.length (aw20 nb rb qA qc [(2,1),(0,0)]).rcap]] V fun e w'=>e= .returned (.bool false)∧Ext V w':=by
 have h:=fits_any 4 3 1 2 (aw20 nb rb qA qc [(2,1),(0,0)]) V hG oG
 rw [aw20_e2]at h
 exact h
theorem own_grown {α:Type} {e:TypeId} {n:Nat} {f:α→List Value} {w w':World} {B g:Nat} {v:Value} {xs:List α} (h:Own e n f w B v xs) (hg:w.grownBy w' (some g)) (hl:g < B):Own e n f w' B v xs:=h.kept hg (.inr fun e=>by have:=(own_lt h e).1;omega)
theorem StOwn.grown1 {w w':World} {B g:Nat} {s:StD} (h:StOwn B w s) (hg:w.grownBy w' (some g)) (hl:g < B):StOwn B w' s:=⟨own_grown h.w hg hl,own_grown h.t hg hl,own_grown h.f hg hl,own_grown h.s hg hl⟩
theorem aw20_own {w:World} {g:Nat} (h:w.heap[g]?=some (.cells #[.int .i64 2,.int .i64 1] 71 (0,0))):Own 71 2 spanC w g (.slice (some ⟨g,0,none⟩) 1 1) [((2:Int),(1:Int))]:=
 ⟨rfl,.inr ⟨g,1,_,rfl,Nat.le_refl _,h,Nat.le_refl _,by decide,by simp,rfl⟩⟩
theorem aw20_far {w:World} {g:Nat} {A:Option Addr} (h:w.heap[g]?=some (.cells #[.int .i64 2,.int .i64 1] 71 (0,0))) (hl:IntsAt w A [4,8,5]) {w':World} (hg:w.grownBy w' (some g)):IntsAt w' A [4,8,5]:=by
 refine RowAt.kept hl hg fun ad hA _ e=> ?_
 obtain ⟨b,off,rfl,hc⟩:=hl.get (by simp)
 obtain rfl:ad=⟨b,off,none⟩:=(Option.some.inj hA).symm
 obtain rfl:b=g:=Option.some.inj e
 have h1:=hc 0 4 rfl 0 (.int .i64 4) rfl
 simp only [World.cell?,h]at h1
 rcases off with _ | _ | off <;>simp at h1
theorem aw20_gr {w w':World} {nb rb qb X c:Nat} {A:Option Addr} {v:Value} {u:World} (hG:GraphAt u (aw20 nb rb (some ⟨qb,0,none⟩) 1 [(2,1)])) (hx:Ext u w) (hn:nb≠qb) (hr:rb≠qb) (hg:w.grownBy w' (some qb)) (ho:Own 71 2 spanC w' qb (.slice A 2 c) [((2:Int),(1:Int)),(0,0)])
  {s1 s2:Value} (hX:w'.heap[X]?=some (.cells #[s1,s2] 27 (0,0))) (h1:∀k i,s1≠ .int k i) (h2:∀k i,s2≠ .int k i) (j:Nat):GraphAt (w'.setCell ⟨X,j,none⟩ v) (aw20 nb rb A c [(2,1),(0,0)]):=by
 refine GraphAt.box (H:=aw20 nb rb A c [(2,1),(0,0)]) ⟨⟨RowAt.kept (A:=some ⟨nb,0,none⟩) (xs:=aw20n rb) (hG.nodes.row.ext hx) hg fun ad hA _ e=> ?_,fun x hm=> ?_⟩,(own_row ho spanCells (by decide)).1⟩ hX h1 h2 j v
 ·obtain rfl:=Option.some.inj hA
  exact hn (Option.some.inj e)
 ·have h3:=(hG.nodes.each x hm).ext hx
  have hm2:x∈aw20n rb:=hm
  simp only [aw20n,List.mem_cons,List.not_mem_nil,or_false]at hm2
  rcases hm2 with rfl | rfl | rfl
  ·exact ⟨RowAt.none _ _ _,RowAt.none _ _ _⟩
  ·refine ⟨RowAt.none _ _ _,RowAt.kept h3.raws hg fun ad hA _ e=> ?_⟩
   obtain rfl:=Option.some.inj hA
   exact hr (Option.some.inj e)
  ·exact ⟨RowAt.none _ _ _,RowAt.none _ _ _⟩
theorem aw20_ok2 {w:World} {nb rb B c:Nat} {A:Option Addr} (ho:Own 71 2 spanC w B (.slice A 2 c) [((2:Int),(1:Int)),(0,0)]):GOk (aw20 nb rb A c [(2,1),(0,0)]):=by
 obtain ⟨g,rfl, -, -⟩:=own_some ho (by simp)
 refine aw20_ok (by simp) (own_row ho spanCells (by decide)).2.2 (by simp) (by simp)
theorem awake20_any (V:World):Calls Tryz.prog 10 #[] V fun e w'=>e= .returned (.bool true)∧Ext V w':=by
 obtain ⟨hg,hb,hc,hr,hx,hs⟩:=aw20_lit V
 have HG:=zH hg
 have HB:=zH hb
 have HC:=zH hc
 have HR:=zH hr
 have HNE:Hid (V.heap.size+1+1≠V.heap.size+1+1+1∧V.heap.size+1≠V.heap.size+1+1+1∧V.heap.size≠V.heap.size+1+1+1+1∧V.heap.size+1+1+1 < V.heap.size+1+1+1+1∧V.heap.size+1+1+1+1 < V.heap.size+1+1+1+1+1∧V.heap.size < V.heap.size+1+1+1∧V.heap.size≤V.heap.size+1+1+1):=zH (by omega)
 have HX:=zH hx
 have HS:=zH hs
 clear hg hb hc hr hx hs
 go_enter Tryz.func10,Tryz.ntmps10
 go_wp2_with fail
 generalize (((((V.alloc (.cells #[.int .i64 4,.int .i64 3,.int .i64 1,.int .i64 2] 23)).alloc (.cells #[.int .u64 1,.int .u64 2] 61)).alloc (.cells #[.int .i64 0,.slice none 0 0,.slice none 0 0,.int .i64 0,.slice none 0 0,.slice (some ⟨V.heap.size+1,0,none⟩) 2 2,.int .i64 1,.slice none 0 0,.slice none 0 0] 66)).alloc (.cells #[.int .i64 2,.int .i64 1] 71)).alloc (.cells #[.slice (some ⟨V.heap.size+1+1,0,none⟩) 3 3,.slice (some ⟨V.heap.size+1+1+1,0,none⟩) 1 1] 27))=W1 at*
 generalize V.heap.size+1+1+1+1+1=b5 at*
 generalize V.heap.size+1+1+1+1=b4 at*
 generalize V.heap.size+1+1+1=b3 at*
 generalize V.heap.size+1+1=b2 at*
 generalize V.heap.size+1=b1 at*
 generalize hb0:V.heap.size=b0 at*
 have HB0:=zH hb0
 clear hb0
 have HOK:Hid (GOk (aw20 b2 b1 (some ⟨b3,0,none⟩) 1 [(2,1)])):=zH (aw20_ok (by simp) (by simp) (by simp) (by simp))
 refine (aw20_lw b2 b1 (some ⟨b3,0,none⟩) 1 W1 HG.out HOK.out).mono ?_
 rintro e w2 ⟨⟨t0,t1,t2,t3,tsn,wA,tws,wc,ttop,tA,ttb,tc,fA,tfr,fc,sA,tsl,sc⟩,rfl,ot,ht,hx2⟩
 simp only at ht
 obtain ⟨rfl,rfl,rfl,rfl,rfl,rfl,rfl,rfl,rfl,rfl⟩:=ht
 have HX2:=zH hx2
 have HB6N:Hid (b5≤w2.heap.size):=zH (by have:=hx2.size;rw [HS.out]at this;exact this)
 have HB2:=zH ((hx2.block (lt_of_heap HB.out)).trans HB.out)
 have HC2:=zH ((hx2.block (lt_of_heap HC.out)).trans HC.out)
 have OT:=zH ot
 have c0:w2.cell? ⟨b4,0,none⟩=some (.slice (some ⟨b2,0,none⟩) 3 3):=by simp [World.cell?,HB2.out]
 have c1:w2.cell? ⟨b4,1,none⟩=some (.slice (some ⟨b3,0,none⟩) 1 1):=by simp [World.cell?,HB2.out]
 have d0:w2.cell? ⟨b0,0,none⟩=some (.int .i64 4):=by simp [World.cell?,HC2.out]
 have d1:w2.cell? ⟨b0,1,none⟩=some (.int .i64 3):=by simp [World.cell?,HC2.out]
 have d2:w2.cell? ⟨b0,2,none⟩=some (.int .i64 1):=by simp [World.cell?,HC2.out]
 have d3:w2.cell? ⟨b0,3,none⟩=some (.int .i64 2):=by simp [World.cell?,HC2.out]
 have hlt:=lt_of_heap HB2.out
 have hlt0:=lt_of_heap HC2.out
 clear hx2 ot
 go_wp2_with fail
 generalize hob:(Obj.cells #[.int .i64 4,.int .i64 3,.int .i64 1,.int .i64 2,.bool false,.slice wA aw20w.length wc,.int .i64 2,.slice tA 1 tc,.slice fA 0 fc,.slice sA 1 sc] 34)=ob
 have hs2:(w2.alloc ob).heap[w2.heap.size]?=some ob:=World.alloc_heap_new w2 ob
 have hx2:=(Ext.refl w2).alloc ob
 replace HX2:=zH (HX2.out.trans hx2)
 have OT2:=zH (OT.out.ext hx2)
 have HS2:=zH hs2
 replace HB2:=zH ((hx2.block (lt_of_heap HB2.out)).trans HB2.out)
 replace HC2:=zH ((hx2.block (lt_of_heap HC2.out)).trans HC2.out)
 clear c0 c1 d0 d1 d2 d3 hlt hlt0 hs2 hx2 HB HC OT
 generalize w2.alloc ob=W2 at*
 generalize w2.heap.size=b6 at*
 refine (aw20_pp b2 b1 (some ⟨b3,0,none⟩) 1 W2 (HG.out.ext HX2.out) HOK.out).mono ?_
 rintro e w3 ⟨A3,k3,rfl,hi3,hx3⟩
 have HX3:=zH (HX2.out.trans hx3)
 have HI3:=zH hi3
 have HB3:=zH ((hx3.block (lt_of_heap HB2.out)).trans HB2.out)
 have HC3:=zH ((hx3.block (lt_of_heap HC2.out)).trans HC2.out)
 have HS3:=zH ((hx3.block (lt_of_heap HS2.out)).trans HS2.out)
 have HR3:=zH ((HX3.out.block (lt_of_heap HR.out)).trans HR.out)
 have OT3:=zH (OT2.out.ext hx3)
 clear hx3 hi3 HB2 HC2 HS2 OT2 HX2 HR
 have HRO:=zH (aw20_own HR3.out)
 have k3:=(cells_of HB3.out).1
 have f3:=(cells_of HB3.out).2
 have l3:=lt_of_heap HB3.out
 have HLE:Hid (b3≤w3.heap.size):=zH (by have:=lt_of_heap HR3.out;omega)
 go_wp2_with (at_builtin;refine wpList_app_lit rfl (.tmp 31) (.tmp 33) 25 rfl valInfo spanCells rfl HRO.out [((0:Int),(0:Int))] 1 _ rfl 2 1 rfl rfl _ rfl (by first | rfl | simp) (by decide) (by decide) HLE.out ?_;intro A6 c6 w6 ho6 hg6 ht6;have HG6:Hid (World.grownBy _ w6 (some b3)):=zH hg6;have HO6:=zH ho6;have hb6:=(HG6.out.block b4 (by have:=HNE.out;simp;omega) (fun e=>by have:=HNE.out;have:=Option.some.inj e;omega)).trans (((Ext.refl w3).alloc (.cells #[.int .i64 0,.int .i64 0] 71)).block (lt_of_heap HB3.out) |>.trans HB3.out);have hc6:=(HG6.out.block b0 (by have:=lt_of_heap HC3.out;simp;omega) (fun e=>by have:=HNE.out;have:=Option.some.inj e;omega)).trans (((Ext.refl w3).alloc (.cells #[.int .i64 0,.int .i64 0] 71)).block (lt_of_heap HC3.out) |>.trans HC3.out);have k6:=(cells_of hb6).1;have f6:=(cells_of hb6).2;have l6:=lt_of_heap hb6;have hb7:(w6.setCell ⟨b4,1,none⟩ (.slice A6 2 c6)).heap[b4]?=some (.cells #[.slice (some ⟨b2,0,none⟩) 3 3,.slice A6 2 c6] 27 (0,0)):=blk_set hb6 _;have hc7:(w6.setCell ⟨b4,1,none⟩ (.slice A6 2 c6)).heap[b0]?=some (.cells #[.int .i64 4,.int .i64 3,.int .i64 1,.int .i64 2] 23 (0,0)):=blk_set_other hc6 _ HNE.out.2.2.1;have HB6:=zH hb6;have HB7:=zH hb7;have HC7:=zH hc7;have k7:=(cells_of hb7).1;have kc:=(cells_of hc7).1;have l7:=lt_of_heap hb7;have lc:=lt_of_heap hc7;clear ho6 hg6 ht6 hb6 hc6 hb7 hc7 k3 f3 l3)
 have HXL:=zH ((Ext.refl w3).alloc (.cells #[.int .i64 0,.int .i64 0] 71))
 have HG7:=zH (aw20_gr (v:= .slice A6 2 c6) HG.out (HX3.out.trans HXL.out) HNE.out.1 HNE.out.2.1 HG6.out HO6.out HB6.out (by simp) (by simp) 1)
 have HI7:=zH (rowAt_box (aw20_far ((HXL.out.block (lt_of_heap HR3.out)).trans HR3.out) (HI3.out.ext HXL.out) HG6.out) (fun x=>⟨_,_,rfl⟩) HB6.out (by intros;simp) (by intros;simp) 1 (.slice A6 2 c6))
 have HS7:=zH (blk_set_other (i:=1) ((HG6.out.block b6 (lt_of_heap ((HXL.out.block (lt_of_heap HS3.out)).trans HS3.out)) (fun e=>by have:=HNE.out;have:=HB6N.out;have:=Option.some.inj e;omega)).trans ((HXL.out.block (lt_of_heap HS3.out)).trans HS3.out)) (.slice A6 2 c6) (show b6≠b4 by have:=HNE.out;have:=HB6N.out;omega))
 have OT7:=zH (((OT3.out.ext HXL.out).grown1 HG6.out (by rw [HS.out];have:=HNE.out;omega)).far (g:=b4) (by rw [HS.out];have:=HNE.out;omega) 1 (.slice A6 2 c6))
 have HX7:=zH (((HRO.out.ext HXL.out).grown HG6.out (by rw [HB0.out];exact HNE.out.2.2.2.2.2.2) (HX.out.trans (HX3.out.trans HXL.out))).setCell (p:=⟨b4,1,none⟩) (by rw [HB0.out];have:=HNE.out;simp only;omega) (.slice A6 2 c6))
 have HOK2:=zH (aw20_ok2 (nb:=b2) (rb:=b1) HO6.out)
 clear k6 f6 l6 k7 kc l7 lc HB6 HG6 HO6 HXL HRO HLE OT3 HR3 HS3 HC3 HB3 HI3 HX3 HG HOK HX
 generalize w6.setCell ⟨b4,1,none⟩ (.slice A6 2 c6)=W4 at*
 refine (aw20_lw2 b2 b1 A6 c6 W4 HG7.out HOK2.out).mono ?_
 rintro e w8 ⟨t2,rfl,hx8⟩
 have hy:=hx8.trans ((Ext.refl w8).alloc (.cells #[.int .i64 t2.c0,.int .i64 t2.c1,.int .i64 t2.c2,.int .i64 t2.c3,.bool t2.snd,.slice t2.wA t2.ws.length t2.wc,.int .i64 t2.top,.slice t2.tA t2.tb.length t2.tc,.slice t2.fA t2.fr.length t2.fc,.slice t2.sA t2.sl.length t2.sc] 34))
 have HG8:=zH (HG7.out.ext hy)
 have HI8:=zH (HI7.out.ext hy)
 have HB8:=zH ((hy.block (lt_of_heap HB7.out)).trans HB7.out)
 have HC8:=zH ((hy.block (lt_of_heap HC7.out)).trans HC7.out)
 have HS8:=zH ((hy.block (lt_of_heap HS7.out)).trans HS7.out)
 rw [←hob]at HS8
 have OT8:=zH (OT7.out.ext hy)
 have HX8:=zH (HX7.out.trans hy)
 have hz8:(w8.alloc (.cells #[.int .i64 t2.c0,.int .i64 t2.c1,.int .i64 t2.c2,.int .i64 t2.c3,.bool t2.snd,.slice t2.wA t2.ws.length t2.wc,.int .i64 t2.top,.slice t2.tA t2.tb.length t2.tc,.slice t2.fA t2.fr.length t2.fc,.slice t2.sA t2.sl.length t2.sc] 34)).heap.size=w8.heap.size+1:=by simp
 have HZ8:=zH hz8
 obtain ⟨g1,rfl, -, -⟩:=own_some OT8.out.t (by simp)
 obtain ⟨g2,rfl, -, -⟩:=own_some OT8.out.s (by simp)
 have c0:=own_cellAt spanCells (by decide) OT8.out.t rfl 0 0 (by simp) _ rfl
 have c1:=own_cellAt slotCells (by decide) OT8.out.s rfl 0 2 (by simp) _ rfl
 simp only [Nat.zero_mul,Nat.zero_add,Nat.add_zero]at c0 c1
 have ks:=(cells_of HS8.out).1
 have ls:=lt_of_heap HS8.out
 clear hx8 hy hz8 HG7 HI7 HB7 HC7 HS7 OT7 HX7
 go_wp2_with fail
 have hw:=row_litb (ys:= [(4:Int),8,5]) (w8.alloc (.cells #[.int .i64 t2.c0,.int .i64 t2.c1,.int .i64 t2.c2,.int .i64 t2.c3,.bool t2.snd,.slice t2.wA t2.ws.length t2.wc,.int .i64 t2.top,.slice t2.tA t2.tb.length t2.tc,.slice t2.fA t2.fr.length t2.fc,.slice t2.sA t2.sl.length t2.sc] 34)) (w8.heap.size+1) HZ8.out #[.int .i64 4,.int .i64 8,.int .i64 5] rfl intCells (by decide) (e:=3)
 have hy:=(Ext.refl (w8.alloc (.cells #[.int .i64 t2.c0,.int .i64 t2.c1,.int .i64 t2.c2,.int .i64 t2.c3,.bool t2.snd,.slice t2.wA t2.ws.length t2.wc,.int .i64 t2.top,.slice t2.tA t2.tb.length t2.tc,.slice t2.fA t2.fr.length t2.fc,.slice t2.sA t2.sl.length t2.sc] 34))).alloc (.cells #[.int .i64 4,.int .i64 8,.int .i64 5] 3)
 have HI9:=zH (HI8.out.ext hy)
 have HX9:=zH (HX8.out.trans hy)
 have HG9:=zH (HG8.out.ext hy)
 have HB9:=zH ((hy.block (lt_of_heap HB8.out)).trans HB8.out)
 have HC9:=zH ((hy.block (lt_of_heap HC8.out)).trans HC8.out)
 have HS9:=zH ((hy.block (lt_of_heap HS8.out)).trans HS8.out)
 have OT9:=zH (OT8.out.ext hy)
 have HW9:=zH hw
 clear hw hy c0 c1 ks ls HI8 HX8 HG8 HB8 HC8 HS8 OT8
 generalize (w8.alloc (.cells #[.int .i64 t2.c0,.int .i64 t2.c1,.int .i64 t2.c2,.int .i64 t2.c3,.bool t2.snd,.slice t2.wA t2.ws.length t2.wc,.int .i64 t2.top,.slice t2.tA t2.tb.length t2.tc,.slice t2.fA t2.fr.length t2.fc,.slice t2.sA t2.sl.length t2.sc] 34)).alloc (.cells #[.int .i64 4,.int .i64 8,.int .i64 5] 3)=W9 at*
 generalize w8.heap.size+1=b9 at*
 refine (ints_is A3 (some ⟨b9,0,none⟩) k3 3 [4,8,5] [4,8,5] true (by decide) W9 (by decide) (by decide) HI9.out HW9.out).mono ?_
 rintro e w10 ⟨rfl,hx⟩
 replace HX9:=zH (HX9.out.trans hx)
 replace HG9:=zH (HG9.out.ext hx)
 replace HB9:=zH ((hx.block (lt_of_heap HB9.out)).trans HB9.out)
 replace HC9:=zH ((hx.block (lt_of_heap HC9.out)).trans HC9.out)
 replace HS9:=zH ((hx.block (lt_of_heap HS9.out)).trans HS9.out)
 replace OT9:=zH (OT9.out.ext hx)
 have kb:=(cells_of HB9.out).1
 have kc:=(cells_of HC9.out).1
 have lb:=lt_of_heap HB9.out
 have lc:=lt_of_heap HC9.out
 clear hx HI9 HW9
 go_wp2_with fail
 clear kb kc lb lc
 refine (aw20_ff b2 b1 A6 c6 w10 HG9.out HOK2.out).mono ?_
 rintro e w11 ⟨rfl,hx⟩
 replace HX9:=zH (HX9.out.trans hx)
 replace HS9:=zH ((hx.block (lt_of_heap HS9.out)).trans HS9.out)
 replace OT9:=zH (OT9.out.ext hx)
 have ks:=(cells_of HS9.out).1
 have ls:=lt_of_heap HS9.out
 clear hx HG9 HB9 HC9
 go_wp2_with fail
 clear ks ls
 refine (stcheck_s _ 0 aw20_ck w11 OT9.out.at ⟨show aw20w.length≤98304 by decide,by simp,by simp,by simp⟩ ⟨show ∀z∈aw20w,0≤z∧z < 18446744073709551616 by decide,by simp,by simp⟩).mono ?_
 rintro e w12 ⟨rfl,hx⟩
 replace HX9:=zH (HX9.out.trans hx)
 clear hx
 go_wp2_with fail
 go_returns
 exact ⟨rfl,HX9.out⟩
theorem lw_both {a b n:StD} (h:eqvS a n=true) (h2:eqvS b n=true):eqvS a b=true:=by
 rw [eqvS_iff]at h h2⊢
 simp [h,h2]
theorem lw_le {a n:StD} (h:eqvS a n=true) (hn:StLe n):StLe a:=by
 obtain ⟨-, -, -,h1,h2,h3,h4⟩:=eqvS_iff.1 h
 exact ⟨by rw [h1];exact hn.w,by rw [h2];exact hn.t,by rw [h3];exact hn.f,by rw [h4];exact hn.s⟩
section
variable {c0 c1 c2 c3 : Int}
theorem lwRun_tb {sn:Bool}:∀(l:List Int) (s t:LwS),lwRun c0 c1 c2 c3 sn s l=some t→t.tb.length≤s.tb.length+l.length
 | [],s,t,h=>by
  injection h with h
  subst h
  simp
 | n::l,s,t,h=>by
  simp only [lwRun]at h
  cases hs:lwStep c0 c1 c2 c3 sn s n with
  | none=>rw [hs]at h;cases h
  | some v=>
   rw [hs]at h
   have h1:=lwRun_tb l v t h
   have h2:=step_tb hs
   rw [List.length_cons]
   omega
theorem lwSt_le {sn:Bool} {G:GraphD} (hn:G.ns.length≤1000):StLe (lwSt c0 c1 c2 c3 sn G):=by
 by_cases h:layE c0 c1 c2 c3 sn G=0
 ·obtain ⟨hc,hR,hl,ha⟩:=lay_ok h
  have hw:wordsZ c0 c1 c2 c3=2*c0+c1:=by simp [wordsZ,hc]
  have ht:=lwRun_tb _ _ _ ha
  simp only [cfgB,decide_eq_true_eq]at hc
  rw [lwSt,if_pos h]
  refine ⟨?_,?_,?_,?_⟩
  ·show (lwW _ _ _).length≤_
   rw [lwW_len,List.length_replicate,hw]
   omega
  ·show (layS c0 c1 c2 c3 sn G).tb.length≤_
   simp [lwS0]at ht
   omega
  ·show (frL _ _ _).length≤_
   unfold frL
   split <;>simp
  ·show (lwSl _ _ _ _).length≤_
   rw [lwSl_len (Nat.le_refl _) (by omega)]
   omega
 ·rw [lwSt,if_neg h]
  exact ⟨by simp,by simp,by simp,by simp⟩
end
theorem putW_mem:∀(l ws:List Int) (a:Nat) {z:Int},z∈putW ws a l→z∈ws∨z∈l
 | [],ws,a,z,h=> .inl h
 | x::l,ws,a,z,h=>by
  rcases putW_mem l _ _ h with h | h
  ·rcases List.mem_or_eq_of_mem_set h with h | h
   ·exact .inl h
   ·exact .inr (by rw [h];exact List.mem_cons_self)
  ·exact .inr (List.mem_cons_of_mem _ h)
theorem lwW_mem (pl:List Int):∀(xs:List (NodeD×Int)) (ws:List Int) {z:Int},z∈lwW pl xs ws→z∈ws∨∃x∈xs,z∈nodeWs pl x.1
 | [],ws,z,h=> .inl h
 | x::xs,ws,z,h=>by
  rcases lwW_mem pl xs (putW ws x.2.toNat (nodeWs pl x.1)) h with h | ⟨y,hy,h⟩
  ·rcases putW_mem _ _ _ h with h | h
   ·exact .inl h
   ·exact .inr ⟨x,List.mem_cons_self,h⟩
  ·exact .inr ⟨y,List.mem_cons_of_mem _ hy,h⟩
theorem wordV_bd (pl:List Int) (v:Int×Int):0≤wordV pl v∧wordV pl v < 18446744073709551616:=by
 unfold wordV
 split
 ·exact lenc_bd _ _
 ·exact lenc_bd _ _
section
variable {c0 c1 c2 c3 : Int} {sn : Bool} {G : GraphD}
theorem lwSt_b (oG:GraphOk G) (h:layE c0 c1 c2 c3 sn G=0):StB (lwSt c0 c1 c2 c3 sn G):=by
 have L:=LayOk.of h
 obtain ⟨h1,h2,h3,h4,h5,h6⟩:=cfg_parts (sn:=sn) L.cfg
 rw [lwSt_eq h]
 refine ⟨fun z hz=> ?_,fun x hx=> ?_,fun x hx=> ?_⟩
 ·rcases lwW_mem _ _ _ (show z∈lwW _ _ _ from hz)with hz | ⟨x,hx,hz⟩
  ·rw [List.eq_of_mem_replicate hz]
   decide
  ·have hx1:x.1∈G.ns:=(List.of_mem_zip (a:=x.1) (b:=x.2) hx).1
   unfold nodeWs at hz
   rcases List.mem_cons.1 hz with rfl | hz
   ·unfold hwordZ
    split
    ·rename_i hm
     have:=hword_lt _ hm
     omega
    ·decide
   ·rcases List.mem_append.1 hz with hz | hz
    ·obtain ⟨v, -,rfl⟩:=List.mem_map.1 hz
     exact wordV_bd _ _
    ·exact (oG.each _ hx1).rv z hz
 ·have:=L.j.lg.le.2 x hx
  have i1:=L.inv.u1
  rw [h4]at this
  split at this <;>omega
 ·have hx:x∈lwSl _ _ _ _:=hx
  unfold lwSl at hx
  rcases List.mem_append.1 hx with hx | hx
  ·obtain ⟨v, -,rfl⟩:=List.mem_map.1 hx
   exact wordV_bd _ _
  ·rw [List.eq_of_mem_replicate hx]
   decide
theorem lw_m {t:StD} {B:Nat} {W:World} (ho:StOwn B W t) (hv:eqvS t (lwSt c0 c1 c2 c3 sn G)=true) (h:layE c0 c1 c2 c3 sn G=0) (oG:GOk G) (h0:c0≤1000) (h1:c1≤1000):LfM t:=by
 have L:=LayOk.of h
 obtain ⟨g1,g2,g3,g4,g5,g6⟩:=cfg_parts (sn:=sn) L.cfg
 have hO:=(lowered h hv).2.1
 have hb:=lwSt_b oG.1 h
 have hle:=lw_le hv (lwSt_le oG.2.1)
 have hw:=(own_row ho.w u64Cells (by decide)).2.2
 rw [lwSt_eq h]at hb
 rw [lwSt_eq h,eqvS_iff]at hv
 obtain ⟨-, -, -,e3,e4, -,e6⟩:=hv
 simp only at e3 e4 e6
 have hsl:=L.slots
 refine ⟨?_,?_,?_,hle,⟨by rw [e3];exact hb.wb,by rw [e4];exact hb.tbb,by rw [e6];exact hb.sb⟩,hw⟩
 ·rw [e3,lwWs_len]
  omega
 ·rw [e6,lwSl_len (Nat.le_refl _) (by omega)]
  omega
 ·rw [hO,List.length_map,ord_len]
  exact oG.2.1
theorem lw_lift (t:StD) (V:World) (ht:StAt V t) (hm:LfM t) (h:layE c0 c1 c2 c3 sn G=0) (hv:eqvS t (lwSt c0 c1 c2 c3 sn G)=true) (oG:GOk G):Calls Tryz.prog 18 #[.agg #[.int .i64 t.c0,.int .i64 t.c1,.int .i64 t.c2,.int .i64 t.c3,.bool t.snd,.slice t.wA t.ws.length t.wc,.int .i64 t.top,.slice t.tA t.tb.length t.tc,.slice t.fA t.fr.length t.fc,.slice t.sA t.sl.length t.sc]] V fun e w'=>
  ∃(H:GraphD) (A:Option Addr) (cap:Nat),e= .returned (.tuple #[.agg #[.slice H.nA H.ns.length H.ncap,.slice H.rA H.rs.length H.rcap],.slice A G.ns.length cap,.int .i64 0])∧GraphAt w' H∧(GOk H∧TwoL c0 c1 c2 c3 sn G H∧Shp H)∧IntsAt w' A ((ordL c0 c1 c2 c3 G).map (plc c0 c1 c2 c3 sn G))∧Ext V w':=by
 obtain ⟨hc,hO,hV,hQ⟩:=lowered h hv
 have L:=LayOk.of h
 refine (llift_w t V ht hc hm).mono ?_
 rintro e w' ⟨H,A,cap,rfl,g1,g2,g3,g4,hl,hx⟩
 rw [hV]at g2
 rw [hQ]at g3
 obtain ⟨o1,o2⟩:=turned_ok oG L.right L.ord g2 g3 g4
 rw [liftO,if_pos hc,hO]at hl
 exact ⟨H,A,cap,by rw [liftO,if_pos hc,hO,List.length_map,ord_len,liftE,if_pos hc],g1,⟨o1,TwoL.of h o2 g2 g3,g4⟩,hl,hx⟩
end
theorem lowerAgain_any (c0 c1 c2 c3:Int) (sn:Bool) (G:GraphD) (V:World) (hG:GraphAt V G) (oG:GraphOk G):
  Calls Tryz.prog 4 #[.agg #[.int .i64 (c0),.int .i64 (c1),.int .i64 (c2),.int .i64 (c3)],.bool sn,.agg #[.slice G.nA G.ns.length G.ncap,.slice G.rA G.rs.length G.rcap]] V fun e w'=>e= .returned (.bool true)∧Ext V w':=by
 have hx0:=((Ext.refl V).alloc (.cells #[.int .i64 c0,.int .i64 c1,.int .i64 c2,.int .i64 c3] 23)).alloc (.cells #[.slice G.nA G.ns.length G.ncap,.slice G.rA G.rs.length G.rcap] 27)
 have hC:=(pers_new V #[.int .i64 c0,.int .i64 c1,.int .i64 c2,.int .i64 c3] 23 _ rfl).re ((Ext.refl _).alloc (.cells #[.slice G.nA G.ns.length G.ncap,.slice G.rA G.rs.length G.rcap] 27))
 have hB:=pers_new (V.alloc (.cells #[.int .i64 c0,.int .i64 c1,.int .i64 c2,.int .i64 c3] 23)) #[.slice G.nA G.ns.length G.ncap,.slice G.rA G.rs.length G.rcap] 27 (V.heap.size+1) (by simp)
 have HG:Pers _ (fun w=>GraphAt w G):=fun w k=>hG.ext (hx0.trans k)
 have HX:=zH hx0
 have HOG:=zH oG
 obtain ⟨b,hb⟩:∃b,largeG G=b:=⟨_,rfl⟩
 have HL:=zH hb
 clear hx0 hb hG oG
 have k0:=(cells_of hC.here).1
 have k1:=(cells_of hB.here).1
 have q1:=lt_of_heap hB.here
 have q0:=lt_of_heap hC.here
 go_enter Tryz.func4,Tryz.ntmps4
 go_wp2_with fail
 clear k0 k1 q0 q1
 generalize (V.alloc (.cells #[.int .i64 c0,.int .i64 c1,.int .i64 c2,.int .i64 c3] 23)).alloc (.cells #[.slice G.nA G.ns.length G.ncap,.slice G.rA G.rs.length G.rcap] 27)=W at*
 generalize V.heap.size+1=B1 at*
 generalize V.heap.size=B0 at*
 refine (large_is G b HL.out W HG.here HOG.out).mono ?_
 rintro e w1 ⟨rfl,hx⟩
 (replace hC:=hC.re hx;replace hB:=hB.re hx;replace HG:=HG.re hx;replace HX:=zH (HX.out.trans hx))
 clear hx
 cases b
 rotate_left
 ·go_wp2_with fail
  refine (awake20_any _).mono ?_
  rintro e w2 ⟨rfl,hx⟩
  replace HX:=zH (HX.out.trans hx)
  clear hx
  go_wp2_with fail
  go_returns
  exact ⟨rfl,HX.out⟩
 by_cases h0:1000 < c0
 ·have g0:decide ((1000:Int) < c0)=true:=by simpa using h0
  have k0:=(cells_of hC.here).1
  have q0:=lt_of_heap hC.here
  clear h0
  go_wp2_with fail
  refine (awake20_any _).mono ?_
  rintro e w2 ⟨rfl,hx⟩
  replace HX:=zH (HX.out.trans hx)
  clear hx
  go_wp2_with fail
  go_returns
  exact ⟨rfl,HX.out⟩
 have g0:decide ((1000:Int) < c0)=false:=by simpa using h0
 by_cases h1:1000 < c1
 ·have g1:decide ((1000:Int) < c1)=true:=by simpa using h1
  have k0:=(cells_of hC.here).1
  have q0:=lt_of_heap hC.here
  clear h0 h1
  go_wp2_with fail
  refine (awake20_any _).mono ?_
  rintro e w2 ⟨rfl,hx⟩
  replace HX:=zH (HX.out.trans hx)
  clear hx
  go_wp2_with fail
  go_returns
  exact ⟨rfl,HX.out⟩
 have g1:decide ((1000:Int) < c1)=false:=by simpa using h1
 have HC0:=zH (show c0≤1000 by omega)
 have HC1:=zH (show c1≤1000 by omega)
 clear h0 h1
 have HGK:Hid (GOk G):=zH ⟨HOG.out,MidG.of HL.out⟩
 obtain ⟨er,he⟩:∃x,layE c0 c1 c2 c3 sn G=x:=⟨_,rfl⟩
 have HE:=zH he
 clear he
 have k0:=(cells_of hC.here).1
 have k1:=(cells_of hB.here).1
 have q0:=lt_of_heap hC.here
 have q1:=lt_of_heap hB.here
 go_wp2_with fail
 clear k0 q0 k1 q1 g0 g1
 have Z:=lower_any c0 c1 c2 c3 sn G w1 HG.here HGK.out
 rw [HE.out]at Z
 refine Z.mono ?_
 clear Z
 rintro e w2 ⟨t,rfl,ho,hv,hx⟩
 (replace hC:=hC.re hx;replace hB:=hB.re hx;replace HG:=HG.re hx;replace HX:=zH (HX.out.trans hx))
 have HT:=ho.at.pers
 have HOT:=zH ho
 have HTV:=zH hv
 have hy:=(Ext.refl w2).alloc (.cells #[.int .i64 t.c0,.int .i64 t.c1,.int .i64 t.c2,.int .i64 t.c3,.bool t.snd,.slice t.wA t.ws.length t.wc,.int .i64 t.top,.slice t.tA t.tb.length t.tc,.slice t.fA t.fr.length t.fc,.slice t.sA t.sl.length t.sc] 34)
 have hA:=pers_new w2 #[.int .i64 t.c0,.int .i64 t.c1,.int .i64 t.c2,.int .i64 t.c3,.bool t.snd,.slice t.wA t.ws.length t.wc,.int .i64 t.top,.slice t.tA t.tb.length t.tc,.slice t.fA t.fr.length t.fc,.slice t.sA t.sl.length t.sc] 34 _ rfl
 clear hx ho hv
 by_cases her:er=0
 rotate_left
 ·have hne:(er !=0)=true:=by simpa using her
  have hne2:(er==0)=false:=by simpa using her
  have k0:=(cells_of hA.here).1
  have q0:=lt_of_heap hA.here
  go_wp2_with fail
  refine (awake20_any _).mono ?_
  rintro e w9 ⟨rfl,hx⟩
  replace HX:=zH ((HX.out.trans hy).trans hx)
  clear hx
  go_wp2_with fail
  go_returns
  exact ⟨rfl,HX.out⟩
 subst her
 have HM:=zH (lw_m HOT.out HTV.out HE.out HGK.out HC0.out HC1.out)
 clear HOT
 have k0:=(cells_of hA.here).1
 have q0:=lt_of_heap hA.here
 go_wp2_with fail
 clear k0 q0
 (replace hC:=hC.re hy;replace hB:=hB.re hy;replace HG:=HG.re hy;replace HX:=zH (HX.out.trans hy);replace HT:=HT.re hy)
 clear hy
 generalize w2.alloc (.cells #[.int .i64 t.c0,.int .i64 t.c1,.int .i64 t.c2,.int .i64 t.c3,.bool t.snd,.slice t.wA t.ws.length t.wc,.int .i64 t.top,.slice t.tA t.tb.length t.tc,.slice t.fA t.fr.length t.fc,.slice t.sA t.sl.length t.sc] 34)=W2 at*
 generalize w2.heap.size=B2 at*
 refine (lw_lift t W2 HT.here HM.out HE.out HTV.out HGK.out).mono ?_
 rintro e w3 ⟨H,A1,cap1,rfl,hg,hh, -,hx⟩
 (replace hC:=hC.re hx;replace hB:=hB.re hx;replace HG:=HG.re hx;replace HX:=zH (HX.out.trans hx);replace HT:=HT.re hx;replace hA:=hA.re hx)
 have HH:=zH hh
 have HGH:Pers w3 (fun w=>GraphAt w H):=fun w k=>hg.ext k
 have HE2:=zH HH.out.2.1.e
 have HN2:=zH (HH.out.2.1.same HE.out)
 have hy:=(Ext.refl w3).alloc (.cells #[.slice H.nA H.ns.length H.ncap,.slice H.rA H.rs.length H.rcap] 27)
 have hD:=pers_new w3 #[.slice H.nA H.ns.length H.ncap,.slice H.rA H.rs.length H.rcap] 27 _ rfl
 have k0:=(cells_of hC.here).1
 have q0:=lt_of_heap hC.here
 clear hx hg hh
 go_wp2_with fail
 clear k0 q0
 (replace hC:=hC.re hy;replace hB:=hB.re hy;replace HG:=HG.re hy;replace HX:=zH (HX.out.trans hy);replace HT:=HT.re hy;replace HGH:=HGH.re hy;replace hA:=hA.re hy)
 clear hy
 generalize w3.alloc (.cells #[.slice H.nA H.ns.length H.ncap,.slice H.rA H.rs.length H.rcap] 27)=W3 at*
 generalize w3.heap.size=B3 at*
 have Z:=lower_any c0 c1 c2 c3 sn H W3 HGH.here HH.out.1
 rw [HE2.out,HN2.out]at Z
 refine Z.mono ?_
 clear Z
 rintro e w4 ⟨t2,rfl,ho,hv,hx⟩
 (replace hC:=hC.re hx;replace hB:=hB.re hx;replace HG:=HG.re hx;replace HX:=zH (HX.out.trans hx);replace HT:=HT.re hx;replace HGH:=HGH.re hx;replace hA:=hA.re hx)
 have HT2:=ho.at.pers
 have HTV2:=zH hv
 have hy:=(Ext.refl w4).alloc (.cells #[.int .i64 t2.c0,.int .i64 t2.c1,.int .i64 t2.c2,.int .i64 t2.c3,.bool t2.snd,.slice t2.wA t2.ws.length t2.wc,.int .i64 t2.top,.slice t2.tA t2.tb.length t2.tc,.slice t2.fA t2.fr.length t2.fc,.slice t2.sA t2.sl.length t2.sc] 34)
 have hA2:=pers_new w4 #[.int .i64 t2.c0,.int .i64 t2.c1,.int .i64 t2.c2,.int .i64 t2.c3,.bool t2.snd,.slice t2.wA t2.ws.length t2.wc,.int .i64 t2.top,.slice t2.tA t2.tb.length t2.tc,.slice t2.fA t2.fr.length t2.fc,.slice t2.sA t2.sl.length t2.sc] 34 _ rfl
 have k0:=(cells_of hA.here).1
 have q0:=lt_of_heap hA.here
 have k1:=(cells_of hA2.here).1
 have q1:=lt_of_heap hA2.here
 clear hx ho hv
 go_wp2_with fail
 clear k0 k1 q0 q1
 (replace HX:=zH (HX.out.trans hy);replace HT:=HT.re hy;replace HT2:=HT2.re hy)
 clear hy
 generalize w4.alloc (.cells #[.int .i64 t2.c0,.int .i64 t2.c1,.int .i64 t2.c2,.int .i64 t2.c3,.bool t2.snd,.slice t2.wA t2.ws.length t2.wc,.int .i64 t2.top,.slice t2.tA t2.tb.length t2.tc,.slice t2.fA t2.fr.length t2.fc,.slice t2.sA t2.sl.length t2.sc] 34)=W4 at*
 have HSM:=zH (lw_both HTV.out HTV2.out)
 have HNL:Hid (StLe (lwSt c0 c1 c2 c3 sn G)):=zH (lwSt_le HGK.out.2.1)
 have Z:=refssame_any t t2 W4 HT.here HT2.here (lw_le HTV.out HNL.out) (lw_le HTV2.out HNL.out)
 rw [HSM.out]at Z
 refine Z.mono ?_
 clear Z
 rintro e w5 ⟨rfl,hx⟩
 (replace HX:=zH (HX.out.trans hx))
 clear hx
 go_wp2_with fail
 refine (awake20_any _).mono ?_
 rintro e w9 ⟨rfl,hx⟩
 replace HX:=zH (HX.out.trans hx)
 clear hx
 go_wp2_with fail
 go_returns
 exact ⟨rfl,HX.out⟩
theorem lowerAgain_fin {v0 v2:Value} {b:Bool} {w:World} (h0:∃s l t m:Int,v0= .agg #[.int .i64 (s),.int .i64 (l),.int .i64 (t),.int .i64 (m)]) (h2:IsGraph w v2):Calls Tryz.prog 4 #[v0,.bool b,v2] w fun e w'=>e= .returned (.bool true)∧Ext w w':=by
 obtain ⟨c0,c1,c2,c3,rfl⟩:=h0
 obtain ⟨G,rfl,hG,oG⟩:=h2
 exact lowerAgain_any c0 c1 c2 c3 b G w hG oG
end Go.Proofs.YtphpppjfogpohaaGreat
