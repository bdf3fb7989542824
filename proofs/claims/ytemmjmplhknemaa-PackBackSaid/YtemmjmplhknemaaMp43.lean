/- Merged by program (merge.py) out of: PkH, PkI. -/
import Derived.Handy
import Derived.Test.YtemmjmplhknemaaMp38
set_option linter.unusedSimpArgs false
set_option linter.unusedVariables false
set_option maxRecDepth 100000
set_option maxHeartbeats 16000000
namespace Go.Proofs.Ytemmjmplhknemaa
open Go.RowKit Go.Shelf
structure WrI (W:World) (X:Nat) (A:Option Addr) (cap:Nat) (d:List UInt8) (wr:World):Prop where
 blk:wr.heap[X]?=some (.cells #[.slice A d.length cap] 74 (0,0))
 own:Own 5 1 byC wr W.heap.size (.slice A d.length cap) (bzL d)
 ext:Ext W wr
 lo:W.heap.size≤X
theorem WrI.grow {W:World} {X:Nat} {A:Option Addr} {cap:Nat} {d:List UInt8} {wr w':World} (h:WrI W X A cap d wr) (hx:Ext wr w'):WrI W X A cap d w':=
 ⟨(hx.block (lt_of_heap h.blk)).trans h.blk,h.own.ext hx,h.ext.trans hx,h.lo⟩
theorem WrI.blkG {W:World} {X:Nat} {A:Option Addr} {cap:Nat} {d:List UInt8} {wr w':World} (h:WrI W X A cap d wr) (hg:wr.grownBy w' (Value.slice A d.length cap).ownBlock):w'.heap[X]?=some (.cells #[.slice A d.length cap] 74 (0,0)):=
 (hg.block X (lt_of_heap h.blk) (h.own.ne_block h.blk (by decide))).trans h.blk
theorem WrI.app {W:World} {X:Nat} {A:Option Addr} {cap:Nat} {d:List UInt8} {wr w':World} (h:WrI W X A cap d wr) {A':Option Addr} {n c':Nat} {d':List UInt8} (hn:n=d'.length) (ho:Own 5 1 byC w' W.heap.size (.slice A' n c') (bzL d')) (hg:wr.grownBy w' (Value.slice A d.length cap).ownBlock):WrI W X A' c' d' (w'.setCell ⟨X,0,none⟩ (.slice A' n c')):=by
 subst hn
 have hb:=h.blkG hg
 exact ⟨blk_set hb _,ho.setOther hb (by decide),(h.own.grown hg (Nat.le_refl _) h.ext).setCell h.lo _,h.lo⟩
def Kpt (V w:World):Prop:=∀(L:Nat) (cs:Array Value) (t:TypeId),V.heap[L]?=some (.cells cs t (0,0))→t≠5→t≠74→w.heap[L]?=some (.cells cs t (0,0))
theorem Kpt.trans {a b c:World} (h:Kpt a b) (k:Kpt b c):Kpt a c:=fun L cs t h1 h2 h3=>k L cs t (h L cs t h1 h2 h3) h2 h3
theorem Kpt.of_ext {a b:World} (h:Ext a b):Kpt a b:=fun L cs t h1 _ _=>(h.block (lt_of_heap h1)).trans h1
theorem kpt_app {X:Nat} {v:Value} {cs:Array Value} {wr w':World} (hX:wr.heap[X]?=some (.cells cs 74 (0,0))) (hne:∀(L:Nat) (cs:Array Value) (t:TypeId),wr.heap[L]?=some (.cells cs t (0,0))→t≠5→some L≠v.ownBlock) (hg:wr.grownBy w' v.ownBlock) (u:Value):Kpt wr (w'.setCell ⟨X,0,none⟩ u):=fun L cs t h1 h2 h3=>by
 have hLX:L≠X:=fun e=>by
  subst e
  rw [hX]at h1
  simp only [Option.some.injEq,Obj.cells.injEq]at h1
  exact h3 h1.2.1.symm
 exact blk_set_other ((hg.block L (lt_of_heap h1) (hne L cs t h1 h2)).trans h1) u hLX
theorem WrI.kpt {W:World} {X:Nat} {A:Option Addr} {cap:Nat} {d:List UInt8} {wr w':World} (h:WrI W X A cap d wr) (hg:wr.grownBy w' (Value.slice A d.length cap).ownBlock) (u:Value):Kpt wr (w'.setCell ⟨X,0,none⟩ u):=kpt_app h.blk (fun L cs t h1 h2=>h.own.ne_block h1 h2) hg u
theorem wtruth_any {W V:World} {X:Nat} {A:Option Addr} {cap:Nat} {d:List UInt8} (h:WrI W X A cap d V) (hd:d.length≤100000000) (b:Bool):Calls Try.prog 34 #[.pointer (some ⟨X,0,none⟩),.bool b] V fun e w'=>e= .returned (.tuple #[])∧Kpt V w'∧∃A' cap',WrI W X A' cap' (d++tfB b) w':=by
 have HI:=zH h
 have k0:=(cells_of h.blk).1
 have l0:=lt_of_heap h.blk
 have HLE:Hid (W.heap.size≤V.heap.size):=zH h.ext.size
 clear h
 go_enter Try.func34,Try.ntmps34
 cases b
 ·go_wp2_with (at_builtin;refine wpList_app_lit rfl (.tmp 18) (.tmp 19) 67 rfl byInfo byCells rfl HI.out.own [(0:Int)] 1 _ rfl (d.length+1) 1 (by simp [bzL]) rfl _ rfl (by first | rfl | simp) (by omega) (by unfold maxLen;omega) HLE.out ?_;intro A6 c6 w6 ho6 hg6 ht6;have HI6:=zH ((HI.out.grow ((Ext.refl V).alloc _)).app (n:=d.length+1) (d':=d++tfB false) (by simp [tfB]) (by rw [show bzL (d++tfB false)=bzL d++ [(0:Int)]from by unfold bzL tfB;rw [List.map_append];rfl];exact ho6) hg6);have hb6:=(HI.out.grow ((Ext.refl V).alloc _)).blkG hg6;have k6:=(cells_of hb6).1;have f6:=(cells_of hb6).2;have l6:=lt_of_heap hb6;have HK6:=zH (fun u=>(Kpt.of_ext ((Ext.refl V).alloc _)).trans ((HI.out.grow ((Ext.refl V).alloc _)).kpt hg6 u));clear ho6 hg6 ht6 hb6)
  go_returns
  exact ⟨rfl,HK6.out _,_,_,HI6.out⟩
 ·go_wp2_with (at_builtin;refine wpList_app_lit rfl (.tmp 9) (.tmp 10) 67 rfl byInfo byCells rfl HI.out.own [(1:Int)] 1 _ rfl (d.length+1) 1 (by simp [bzL]) rfl _ rfl (by first | rfl | simp) (by omega) (by unfold maxLen;omega) HLE.out ?_;intro A6 c6 w6 ho6 hg6 ht6;have HI6:=zH ((HI.out.grow ((Ext.refl V).alloc _)).app (n:=d.length+1) (d':=d++tfB true) (by simp [tfB]) (by rw [show bzL (d++tfB true)=bzL d++ [(1:Int)]from by unfold bzL tfB;rw [List.map_append];rfl];exact ho6) hg6);have hb6:=(HI.out.grow ((Ext.refl V).alloc _)).blkG hg6;have k6:=(cells_of hb6).1;have f6:=(cells_of hb6).2;have l6:=lt_of_heap hb6;have HK6:=zH (fun u=>(Kpt.of_ext ((Ext.refl V).alloc _)).trans ((HI.out.grow ((Ext.refl V).alloc _)).kpt hg6 u));clear ho6 hg6 ht6 hb6)
  go_returns
  exact ⟨rfl,HK6.out _,_,_,HI6.out⟩
theorem w8_take {z:Int} {k:Nat} (hk:k < 8):(w8B z).take (k+1)=(w8B z).take k++ [(z.toNat/256 ^ k).toUInt8]:=by
 have hl:k < (w8B z).length:=by rw [w8_len];exact hk
 rw [List.take_add_one,List.getElem?_eq_getElem hl]
 simp [w8B]
theorem wword_any {W V:World} {X:Nat} {A:Option Addr} {cap:Nat} {d:List UInt8} (h:WrI W X A cap d V) (hd:d.length≤100000000) (z:Nat) (hz:z < 18446744073709551616):Calls Try.prog 36 #[.pointer (some ⟨X,0,none⟩),.int .u64 z] V fun e w'=>e= .returned (.tuple #[])∧Kpt V w'∧∃A' cap',WrI W X A' cap' (d++w8B z) w':=by
 have HI0:=zH h
 clear h
 go_enter Try.func36,Try.ntmps36
 go_wp2_with fail
 go_loopw [1,4] (fun v i wr=>∃(k:Nat) (A':Option Addr) (c':Nat),k≤8∧i= .int .i64 k∧v= .int .u64 ((z/256 ^ k:Nat):Int)∧Hid (WrI W X A' c' (d++(w8B z).take k) wr)∧Hid (Kpt V wr)) (fun _ i _=>8 - (intOf i).toNat)
 case atStart=>exact ⟨0,A,cap,by omega,rfl,by simp,zH (by simpa using HI0.out),zH (Kpt.of_ext (Ext.refl V))⟩
 case round=>
  obtain ⟨k,A',c',hk,rfl,rfl,HI,HKP⟩:=hrel
  by_cases hlt:k < 8
  rotate_left
  ·obtain rfl:k=8:=by omega
   have HF:Hid (WrI W X A' c' (d++w8B z) wr):=zH (by have:=HI.out;rwa [List.take_of_length_le (Nat.le_of_eq w8_len)]at this)
   clear HI
   go_wp2_with fail
   go_returns
   exact ⟨rfl,HKP.out,_,_,HF.out⟩
  have hdl:(d++(w8B z).take k).length≤100000008:=by rw [List.length_append,List.length_take];omega
  have HT:=zH (w8_take (z:=z) hlt)
  have HQ:Hid (z/256 ^ k/256=z/256 ^ (k+1)):=zH (by rw [Nat.div_div_eq_div_mul,Nat.pow_succ])
  have hq:z/256 ^ k < 18446744073709551616:=Nat.lt_of_le_of_lt (Nat.div_le_self _ _) hz
  have HB:Hid (((z/256 ^ k:Nat):Int) % 256=(((z:Int).toNat/256 ^ k).toUInt8.toNat:Int)):=zH (by rw [toU8_mod,Int.toNat_natCast];omega)
  generalize hD:d++(w8B z).take k=D at*
  have HD:=zH hD
  clear hD
  generalize z/256 ^ k=q at*
  have k0:=(cells_of HI.out.blk).1
  have l0:=lt_of_heap HI.out.blk
  have HLE:Hid (W.heap.size≤wr.heap.size):=zH HI.out.ext.size
  generalize hc:((z:Int).toNat/256 ^ k).toUInt8=c at*
  go_wp2_with (at_builtin;refine wpList_app_lit rfl (.tmp 10) (.tmp 13) 67 rfl byInfo byCells rfl HI.out.own [((c.toNat:Nat):Int)] 1 _ (by rw [HB.out];rfl) (D.length+1) 1 (by simp [bzL]) rfl _ rfl (by first | rfl | simp) (by omega) (by unfold maxLen;omega) HLE.out ?_;intro A6 c6 w6 ho6 hg6 ht6;have HI6:=zH ((HI.out.grow ((Ext.refl wr).alloc _)).app (n:=D.length+1) (d':=D++ [c]) (by simp) (by rw [show bzL (D++ [c])=bzL D++ [((c.toNat:Nat):Int)]from by unfold bzL;rw [List.map_append];rfl];exact ho6) hg6);have hb6:=(HI.out.grow ((Ext.refl wr).alloc _)).blkG hg6;have k6:=(cells_of hb6).1;have f6:=(cells_of hb6).2;have l6:=lt_of_heap hb6;have HK6:=zH (fun u=>HKP.out.trans ((Kpt.of_ext ((Ext.refl wr).alloc _)).trans ((HI.out.grow ((Ext.refl wr).alloc _)).kpt hg6 u)));clear ho6 hg6 ht6 hb6)
  go_roundw
  case rel=>exact ⟨k+1,A6,c6,by omega,by go_num,by rw [←HQ.out];go_num,by rw [HT.out,←List.append_assoc,HD.out];exact HI6,zH (HK6.out _)⟩
  case measure=>simp [intOf];omega
end Go.Proofs.Ytemmjmplhknemaa
