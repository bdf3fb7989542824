/- Merged by program (merge.py) out of: PkJ, PkK. -/
import Derived.Lib.AppendStr
import Derived.Test.YtemmjmplhknemaaMp43
import Derived.Test.YtemmjmplhknemaaMp4
set_option linter.unusedSimpArgs false
set_option linter.unusedVariables false
set_option maxRecDepth 100000
set_option maxHeartbeats 16000000
namespace Go.Proofs.Ytemmjmplhknemaa
open Go.RowKit Go.Shelf
theorem putB_len (n:Int):(putB n).length≤9:=by
 unfold putB
 split
 ·simp
 ·exact dgF_len 9 _
theorem str_cells0:∀l:List UInt8,(l.map fun b=>Value.int .u8 b.toNat)=(bzL l).flatMap byC
 | []=>rfl
 | c::l=>by
  have h:=str_cells0 l
  unfold bzL at h⊢
  rw [List.map_cons,List.map_cons,List.flatMap_cons,h]
  rfl
theorem str_cells (l:List UInt8):Go.Lib.strCells ⟨l.toArray⟩=(bzL l).flatMap byC:=str_cells0 l
theorem wpList_app_str {ops:Array Oper} {rest:List Oper} {o:Oper} {a:Act} {w:World} {B:Nat} {v:Value} {d l:List UInt8} {Q:Exit→Act→World→Prop} (hgd:o.guard=none) (sl x:Operand) (t u:TypeId)
  (ho:o.op= .call {callee:= .builtin .append,args:= #[sl,x],argTypes:= #[t,u]}) (ht:Try.prog.underlying t=some (.slice 5)) (hu:Try.prog.underlying u=some .string)
  (hs:a.eval sl=v) (hown:Own 5 1 byC w B v (bzL d)) (hx:a.eval x= .string ⟨l.toArray⟩) (hbytes:d.length+l.length≤140737488355328) (hB:B≤w.heap.size) (r:Nat) (hr:d.length+l.length=r)
  (h:∀A cap w',Own 5 1 byC w' B (.slice A r cap) (bzL (d++l))→w.grownBy w' v.ownBlock→wpList Try.prog ops Q rest (a.put o.dst (.slice A r cap)) w'):wpList Try.prog ops Q (o::rest) a w:=by
 subst hr
 obtain ⟨i,hi,hz0,hz1,hz2⟩:=info_parts byInfo0
 have hzl:∀l:List UInt8,(bzL l).length=l.length:=fun l=>by simp [bzL]
 have hsz:(⟨l.toArray⟩:ByteArray).size=l.length:=by show l.toArray.size=_;simp
 have hsc:=str_cells l
 unfold Own at hown
 rw [hzl]at hown
 refine Go.Lib.wpList_append_own_string w hgd sl x t u ho B 5 i ht hu hi hz0 hz1 hz2 v d.length _ hs hown ⟨l.toArray⟩ hx (by rw [hsz];unfold maxLen;omega) (by rw [hsz];exact hbytes) hB ?_
 intro v' w' h1 h2 _
 rw [hsz,hsc]at h1
 have h3:Own 5 1 byC w' B v' (bzL (d++l)):=by
  unfold Own
  rw [hzl,List.length_append,show bzL (d++l)=bzL d++bzL l by simp [bzL],List.flatMap_append]
  exact h1
 obtain ⟨A,cap,rfl, -⟩:=h3.form byCells (by decide)
 rw [hzl,List.length_append]at h3⊢
 exact h A cap w' h3 h2
def MkO (w:World) (B:Nat) (A:Option Addr) (n cap:Nat) (d:List UInt8):Prop:=∃g fz,A=some ⟨g,0,none⟩∧B≤g∧cap=n∧n=d.length∧w.heap[g]?=some (.cells ((bzL d).flatMap byC).toArray 5 fz)
def OwnJ (w:World) (B:Nat) (A:Option Addr) (n cap:Nat) (d:List UInt8):Prop:=Own 5 1 byC w B (.slice A n cap) (bzL d)∨MkO w B A n cap d
theorem OwnJ.ext {w w':World} {B:Nat} {A:Option Addr} {n cap:Nat} {d:List UInt8} (h:OwnJ w B A n cap d) (hx:Ext w w'):OwnJ w' B A n cap d:=by
 rcases h with h | ⟨g,fz,h1,h2,h3,h4,h5⟩
 ·exact .inl (h.ext hx)
 ·exact .inr ⟨g,fz,h1,h2,h3,h4,(hx.block (lt_of_heap h5)).trans h5⟩
theorem OwnJ.ne_block {w:World} {B:Nat} {A:Option Addr} {n cap:Nat} {d:List UInt8} (h:OwnJ w B A n cap d) {L:Nat} {cs:Array Value} {t:TypeId} (hL:w.heap[L]?=some (.cells cs t (0,0))) (ht:t≠5):some L≠(Value.slice A n cap).ownBlock:=by
 rcases h with h | ⟨g,fz,rfl,h2,h3,h4,h5⟩
 ·exact h.ne_block hL ht
 ·intro e
  simp only [Value.ownBlock,Option.some.injEq]at e
  subst e
  rw [hL]at h5
  simp only [Option.some.injEq,Obj.cells.injEq]at h5
  exact ht h5.2.1
theorem OwnJ.lo {w:World} {B:Nat} {A:Option Addr} {n cap:Nat} {d:List UInt8} (h:OwnJ w B A n cap d):∀k,(Value.slice A n cap).ownBlock=some k→B≤k:=by
 rcases h with h | ⟨g,fz,rfl,h2,h3,h4,h5⟩
 ·exact fun k hk=>(World.ownsRow.lt h k hk).1
 ·intro k e
  simp only [Value.ownBlock,Option.some.injEq]at e
  omega
theorem wpList_app_strJ {ops:Array Oper} {rest:List Oper} {o:Oper} {a:Act} {w:World} {B:Nat} {A:Option Addr} {n cap:Nat} {d l:List UInt8} {Q:Exit→Act→World→Prop} (hgd:o.guard=none) (sl x:Operand) (t u:TypeId)
  (ho:o.op= .call {callee:= .builtin .append,args:= #[sl,x],argTypes:= #[t,u]}) (ht:Try.prog.underlying t=some (.slice 5)) (hu:Try.prog.underlying u=some .string)
  (hs:a.eval sl= .slice A n cap) (hown:OwnJ w B A n cap d) (hx:a.eval x= .string ⟨l.toArray⟩) (hl:l≠ []) (hbytes:d.length+l.length≤140737488355328) (hB:B≤w.heap.size) (r:Nat) (hr:d.length+l.length=r)
  (h:∀A2 cap2 w',Own 5 1 byC w' B (.slice A2 r cap2) (bzL (d++l))→w.grownBy w' (Value.slice A n cap).ownBlock→wpList Try.prog ops Q rest (a.put o.dst (.slice A2 r cap2)) w'):wpList Try.prog ops Q (o::rest) a w:=by
 rcases hown with hown | ⟨g,fz,rfl,hbg,rfl,rfl,hg⟩
 ·exact wpList_app_str hgd sl x t u ho ht hu hs hown hx hbytes hB r hr h
 subst hr
 obtain ⟨i,hi,hz0,hz1,hz2⟩:=info_parts byInfo0
 have hzl:∀l:List UInt8,(bzL l).length=l.length:=fun l=>by simp [bzL]
 have hsz:(⟨l.toArray⟩:ByteArray).size=l.length:=by show l.toArray.size=_;simp
 have hfl:∀l:List UInt8,((bzL l).flatMap byC).length=l.length:=fun l=>by rw [flat_len byCells,hzl,Nat.mul_one]
 have hl0:0 < l.length:=List.length_pos_iff.2 hl
 have hrn := Go.Lib.run_append_grow_string (P := Try.prog) w t u o.type 5 i (.int .u8 0) ht hu hi hz0 ⟨g, 0, none⟩ d.length d.length ((bzL d).flatMap byC) (by rw [hfl, hz1, Nat.mul_one]) (fun j v hj => by
   have hadd:(⟨g,0,none⟩:Addr).add j=⟨g,j,none⟩:=by unfold Addr.add;split <;>simp_all
   rw [hadd]
   simp only [World.cell?,hg,List.getElem?_toArray]
   exact hj) ⟨l.toArray⟩ (by rw [hsz];omega) (by rw [hsz];omega) (by rw [hsz,hz2];exact growslice_fits (by omega) (by omega))
 rw [hsz,str_cells]at hrn
 refine wpList_plain hgd fun K hK=> ?_
 unfold Oper.wp execOp
 simp only [ho,resolve,invoke,builtin,Sem.run_bind,Sem.run_pure,Result.andThen_ok,List.map_toArray,List.map_cons,List.map_nil,hs,hx,hrn]
 have hge:=grownCap_ge w (d.length+l.length) d.length 5
 have hcm:grownCap w (d.length+l.length) d.length 5≤maxLen:=grownCap_le_maxLen w (d.length+l.length) d.length 5 (by unfold maxLen;omega)
 refine hK _ _ (h _ _ _ ⟨by rw [hfl,hzl];simp,.inr ⟨w.heap.size,_,_,by rw [hzl,List.length_append],hB,heap_alloc_new w.drew _,by rw [hzl,List.length_append];exact hge,hcm,?_,?_⟩⟩ ⟨rfl,rfl,rfl,by simp,fun k hk _=>heap_alloc_old w.drew _ hk⟩)
 ·simp only [Array.size_append,List.size_toArray,size_zeroCells,hfl,show (Value.int IntKind.u8 0).cells.size=1 from rfl]
  omega
 ·simp only [Array.toList_append]
  rw [List.take_left' (by simp only [List.length_append,hfl,hzl,Nat.mul_one])]
  unfold bzL
  rw [List.map_append,List.flatMap_append]
structure WrJ (W:World) (X:Nat) (A:Option Addr) (cap:Nat) (d:List UInt8) (wr:World):Prop where
 blk:wr.heap[X]?=some (.cells #[.slice A d.length cap] 74 (0,0))
 own:OwnJ wr W.heap.size A d.length cap d
 ext:Ext W wr
 lo:W.heap.size≤X
theorem WrI.toJ {W:World} {X:Nat} {A:Option Addr} {cap:Nat} {d:List UInt8} {wr:World} (h:WrI W X A cap d wr):WrJ W X A cap d wr:=⟨h.blk,.inl h.own,h.ext,h.lo⟩
section
variable {W : World} {X : Nat} {A : Option Addr} {cap : Nat} {d : List UInt8} {wr w' : World}
theorem WrJ.grow (h:WrJ W X A cap d wr) (hx:Ext wr w'):WrJ W X A cap d w':=⟨(hx.block (lt_of_heap h.blk)).trans h.blk,h.own.ext hx,h.ext.trans hx,h.lo⟩
theorem WrJ.blkG (h:WrJ W X A cap d wr) (hg:wr.grownBy w' (Value.slice A d.length cap).ownBlock):w'.heap[X]?=some (.cells #[.slice A d.length cap] 74 (0,0)):=
 (hg.block X (lt_of_heap h.blk) (h.own.ne_block h.blk (by decide))).trans h.blk
theorem WrJ.kpt (h:WrJ W X A cap d wr) (hg:wr.grownBy w' (Value.slice A d.length cap).ownBlock) (u:Value):Kpt wr (w'.setCell ⟨X,0,none⟩ u):=kpt_app h.blk (fun L cs t h1 h2=>h.own.ne_block h1 h2) hg u
theorem WrJ.app (h:WrJ W X A cap d wr) {A':Option Addr} {n c':Nat} {d':List UInt8} (hn:n=d'.length) (ho:Own 5 1 byC w' W.heap.size (.slice A' n c') (bzL d')) (hg:wr.grownBy w' (Value.slice A d.length cap).ownBlock):WrI W X A' c' d' (w'.setCell ⟨X,0,none⟩ (.slice A' n c')):=by
 subst hn
 have hb:=h.blkG hg
 exact ⟨blk_set hb _,ho.setOther hb (by decide),Ext.setCell (Below.grown h.ext hg (Ext.size h.ext) h.own.lo) h.lo _,h.lo⟩
end
def BoxW (b:Nat) (cs:Array Value) (t:TypeId) (w:World):Prop:=w.heap[b]?=some (.cells cs t (0,0))
theorem BoxW.cells {b:Nat} {cs:Array Value} {t:TypeId} {W:World} (h:BoxW b cs t W) (u:KeptOf W (BoxW b cs t)) (i:Nat):u.1.cell? ⟨b,i,none⟩=cs[i]?:=(cells_of (u.of h)).1 i
theorem BoxW.ext {b:Nat} {cs:Array Value} {t:TypeId} {W W':World} (h:BoxW b cs t W) (hx:Ext W W'):BoxW b cs t W':=(hx.block (lt_of_heap h)).trans h
theorem wnumbers_any {W V:World} {X:Nat} {A:Option Addr} {cap:Nat} {d:List UInt8} (h:WrJ W X A cap d V) (hd:d.length≤100000000) {L lc:Nat} (xs:List Int) (n:Nat) (hn:xs.length=n)
  (hL:V.heap[L]?=some (.cells (xs.map (Value.int .i64)).toArray 3 (0,0))) (hx:n≤10) (h0:0 < n) (hb:∀x∈xs,0≤x∧x < 9223372036854775808):
  Calls Try.prog 33 #[.pointer (some ⟨X,0,none⟩),.slice (some ⟨L,0,none⟩) n lc] V fun e w'=>e= .returned (.tuple #[])∧Kpt V w'∧∃A' cap',WrI W X A' cap' (d++xs.flatMap putB) w':=by
 have HI0:=zH h
 have HL0:=zH hL
 have HN:=zH hn
 have HXb:=zH hb
 clear h hL hn hb
 go_enter Try.func33,Try.ntmps33
 go_wp2_with fail
 go_loopw [8] (fun i wr=>∃(k:Nat) (A':Option Addr) (c':Nat),k≤n∧i= .int .i64 k∧Hid (WrJ W X A' c' (d++(xs.take k).flatMap putB) wr)∧Hid (0 < k→WrI W X A' c' (d++(xs.take k).flatMap putB) wr)∧Hid (wr.heap[L]?=some (.cells (xs.map (Value.int .i64)).toArray 3 (0,0)))∧Hid (Kpt V wr)) (fun i _=>n - (intOf i).toNat)
 case atStart=>exact ⟨0,A,cap,by omega,rfl,zH (by simpa using HI0.out),zH (by omega),HL0,zH (Kpt.of_ext (Ext.refl V))⟩
 case round=>
  obtain ⟨k,A',c',hk,rfl,HI,HJ,HL,HKP⟩:=hrel
  by_cases hlt:k < n
  rotate_left
  ·obtain rfl:k=n:=by omega
   have HF:Hid (WrI W X A' c' (d++xs.flatMap putB) wr):=zH (by have:=HJ.out h0;rwa [List.take_of_length_le (Nat.le_of_eq HN.out)]at this)
   clear HI HJ
   go_wp2_with fail
   go_returns
   exact ⟨rfl,HKP.out,_,_,HF.out⟩
  clear HJ
  have hkx:k < xs.length:=by rw [HN.out];exact hlt
  obtain ⟨x,hx0⟩:∃x,xs[k]=x:=⟨_,rfl⟩
  have hxb:=HXb.out x (by rw [←hx0];exact List.getElem_mem hkx)
  have HT:Hid ((xs.take (k+1)).flatMap putB=(xs.take k).flatMap putB++putB x):=zH (by rw [List.take_add_one,List.getElem?_eq_getElem hkx,hx0];simp)
  have hdl:((xs.take k).flatMap putB).length≤9*k:=by
   clear HI hlt HT hx0 hxb
   have:∀l:List Int,(l.flatMap putB).length≤9*l.length:=fun l=>by
    induction l with
    | nil=>simp
    | cons y l ih=>rw [List.flatMap_cons,List.length_append,List.length_cons];have:=putB_len y;omega
   have h:=this (xs.take k)
   rw [List.length_take]at h
   omega
  have hDL:(d++(xs.take k).flatMap putB).length≤100000090:=by rw [List.length_append];omega
  generalize hD:d++(xs.take k).flatMap putB=D at*
  have HD:=zH hD
  clear hD hdl
  have k1:=(cells_of HL.out).1
  have c0:wr.cell? ⟨L,k,none⟩=some (.int .i64 x):=by rw [k1 k];simp [List.getElem?_eq_getElem hkx,hx0]
  have l1:=lt_of_heap HL.out
  have hpx:=putB_len x
  clear k1 hx0 hkx
  go_wp2_with fail
  have hyd:=(Ext.refl wr).drew
  have hGP:BoxW X #[.slice A' D.length c'] 74 wr.drew:=BoxW.ext HI.out.blk hyd
  have gB:=hGP.cells
  (refine wp_region_gp (w:=wr) (fun _=>True) (.rd [0] (.wk [7,8,9,10] (.rd [1,2,3,4,5] (.one 6 .tl)))) [] (by kernel_rfl) (by kernel_rfl) (by intro c a d v w h;first | exact h | (cases d <;>first | exact h | (cases h;done) | cases h.1.1 | cases h.1)) trivial ?_;(refine gp_rd ?_;(try simp only [opsOf,List.map_cons,List.map_nil,List.getD_cons_zero,List.getD_cons_succ]);(repeat (go_big_quiet_step (fail)));refine wpQuiet_nil ?_);refine gp_wk (fun _=>trivial) (fun w'=>∃u:KeptOf (wr).drew (BoxW X #[.slice A' D.length c'] 74),w'=u.1) (kept_mk hGP) ?_)
  (refine gp_rd ?_;(try simp only [opsOf,List.map_cons,List.map_nil,List.getD_cons_zero,List.getD_cons_succ]);(repeat (go_big_quiet_step (fail)));refine wpQuiet_nil ?_)
  clear gB
  replace HI:=zH (HI.out.grow hyd)
  replace HL:=zH ((hyd.block l1).trans HL.out)
  replace HKP:=zH (HKP.out.trans (Kpt.of_ext hyd))
  clear hyd
  generalize wr.drew=W2 at*
  (refine gp_one (by (try simp only [List.getD_cons_succ,List.getD_cons_zero]);rfl) (by rfl) ?_;intro K hK;go_simp)
  refine (pput_any x (by omega) W2).mono ?_
  rintro e w1 ⟨rfl,hx⟩
  refine hK _ _ _ (fun _ h=>h) (kept_mk (hGP.ext hx)) ?_
  clear hK K hGP
  have HI1:=zH (HI.out.grow hx)
  replace HKP:=zH (HKP.out.trans (Kpt.of_ext hx))
  have HL1:=zH ((hx.block (lt_of_heap HL.out)).trans HL.out)
  (refine gp_tl ?_;(try simp only [opsOf,List.map_cons,List.map_nil,List.getD_cons_zero,List.getD_cons_succ]))
  have HLE:Hid (W.heap.size≤w1.heap.size):=zH HI1.out.ext.size
  clear HI HL c0 l1 hx
  have hpz:putB x≠ []:=by unfold putB;rw [if_neg (by omega)];exact List.length_pos_iff.1 dgF_pos
  go_wp2_with (at_builtin;refine wpList_app_strJ rfl (.tmp 16) (.tmp 18) 67 9 rfl Try.underlying67 Try.underlying9 rfl HI1.out.own rfl hpz (by omega) HLE.out (D.length+(putB x).length) rfl ?_;intro A6 c6 w6 ho6 hg6;have HI6:=zH (HI1.out.app (n:=D.length+(putB x).length) (d':=D++putB x) (by simp) ho6 hg6);have hb6:=HI1.out.blkG hg6;have k6:=(cells_of hb6).1;have f6:=(cells_of hb6).2;have l6:=lt_of_heap hb6;have HL6:Hid (w6.heap[L]?=some (.cells (xs.map (Value.int .i64)).toArray 3 (0,0))):=zH ((hg6.block L (lt_of_heap HL1.out) (HI1.out.own.ne_block HL1.out (by decide))).trans HL1.out);have HNE:Hid (L≠X):=zH (fun e=>by have h1:=HL6.out;rw [e,hb6]at h1;simp at h1);have HK6:=zH (fun u=>HKP.out.trans (HI1.out.kpt hg6 u));clear ho6 hg6 hb6)
  go_roundw
  case rel=>exact ⟨k+1,A6,c6,by omega,by go_num,by rw [HT.out,←List.append_assoc,HD.out];exact zH HI6.out.toJ,by rw [HT.out,←List.append_assoc,HD.out];exact zH (fun _=>HI6.out),zH (blk_set_other HL6.out _ HNE.out),zH (HK6.out _)⟩
  case measure=>simp [intOf];omega
theorem spF_len:∀l:List (Int×Int),(l.flatMap fun x=>putB x.1++putB x.2).length≤18*l.length
 | []=>by simp
 | x::l=>by
  have:=spF_len l
  have h1:=putB_len x.1
  have h2:=putB_len x.2
  rw [List.flatMap_cons,List.length_append,List.length_append,List.length_cons]
  omega
theorem flat_take {α:Type} {l:List α} {k:Nat} (hk:k < l.length) (g:α→List UInt8):(l.take (k+1)).flatMap g=(l.take k).flatMap g++g l[k]:=by
 rw [List.take_add_one,List.getElem?_eq_getElem hk,List.flatMap_append]
 simp
theorem wspans_any {W V:World} {X:Nat} {A:Option Addr} {cap:Nat} {d:List UInt8} (h:WrI W X A cap d V) (hd:d.length≤10000000) (lA:Option Addr) (lc:Nat) (l:List (Int×Int)) (n:Nat) (hn:l.length=n)
  (hS:SpansAt W lA l) (hl:n≤98304) (hb:∀x∈l,(0≤x.1∧x.1 < 9223372036854775808)∧0≤x.2∧x.2 < 9223372036854775808):
  Calls Try.prog 35 #[.pointer (some ⟨X,0,none⟩),.slice lA n lc] V fun e w'=>e= .returned (.tuple #[])∧∃A' cap',WrI W X A' cap' (d++spB l) w':=by
 have HI0:=zH h
 have HS:=zH hS
 have HN:=zH hn
 have HB:=zH hb
 have HSP:Hid (spB l=putB n++(l.take n).flatMap fun x=>putB x.1++putB x.2):=zH (by rw [List.take_of_length_le (Nat.le_of_eq hn),←hn];rfl)
 clear h hS hn hb
 go_enter Try.func35,Try.ntmps35
 go_wp2_with fail
 refine (wnumbers_any (HI0.out.grow ((Ext.refl V).alloc _)).toJ (by omega) [(n:Int)] 1 rfl (blk_new V _ _ _ rfl) (by decide) (by decide) (by intro x hx;simp at hx;omega)).mono ?_
 rintro e w1 ⟨rfl, -,A1,c1,h1⟩
 have HI1:Hid (WrI W X A1 c1 (d++putB n) w1):=zH (by simpa using h1)
 clear h1 HI0
 have hp:=putB_len n
 go_wp2_with fail
 go_loopw [13] (fun i wr=>∃(k:Nat) (A':Option Addr) (c':Nat),k≤n∧i= .int .i64 k∧Hid (WrI W X A' c' (d++putB n++(l.take k).flatMap fun x=>putB x.1++putB x.2) wr)) (fun i _=>n - (intOf i).toNat)
 case atStart=>exact ⟨0,A1,c1,by omega,rfl,zH (by simpa using HI1.out)⟩
 case round=>
  obtain ⟨k,A',c',hk,rfl,HI⟩:=hrel
  by_cases hlt:k < n
  rotate_left
  ·obtain rfl:k=n:=by omega
   have HF:Hid (WrI W X A' c' (d++spB l) wr):=zH (by have:=HI.out;rwa [List.append_assoc,←HSP.out]at this)
   clear HI
   go_wp2_with fail
   go_returns
   exact ⟨rfl,_,_,HF.out⟩
  have hkl:k < l.length:=by rw [HN.out];exact hlt
  obtain ⟨b,off,rfl,hc⟩:=(RowAt.ext HS.out HI.out.ext).get (by omega)
  have hxb:=HB.out l[k] (List.getElem_mem hkl)
  have HT:=zH (flat_take hkl fun x:Int×Int=>putB x.1++putB x.2)
  have c0:=hc k l[k] (List.getElem?_eq_getElem hkl) 0 _ rfl
  have c1:=hc k l[k] (List.getElem?_eq_getElem hkl) 1 _ rfl
  generalize l[k]=x at*
  obtain ⟨x1,x2⟩:=x
  have hfl:=spF_len (l.take k)
  rw [List.length_take]at hfl
  have hDL:(d++putB n++(l.take k).flatMap fun x=>putB x.1++putB x.2).length≤100000000:=by rw [List.length_append,List.length_append];omega
  clear hfl hc hkl
  generalize hD:(d++putB n++(l.take k).flatMap fun x=>putB x.1++putB x.2)=D at*
  have HD:=zH hD
  clear hD
  simp only [Nat.add_zero]at c0
  have l0:b < wr.heap.size:=by
   have:=World.block_lt_of_cell? wr _ c0
   simpa using this
  go_wp2_with fail
  refine (wnumbers_any (HI.out.grow (((Ext.refl wr).alloc _).alloc _)).toJ hDL [x1,x2] 2 rfl (blk_new (wr.alloc _) _ _ _ (by simp)) (by decide) (by decide) (by intro x hx;simp at hx;rcases hx with rfl | rfl <;>omega)).mono ?_
  rintro e w2 ⟨rfl, -,A2,c2,h2⟩
  have HI2:=zH h2
  clear h2
  go_wp2_with fail
  go_roundw
  case rel=>exact ⟨k+1,A2,c2,by omega,by go_num,zH (by have:=HI2.out;rw [HT.out,←List.append_assoc,HD.out];simpa using this)⟩
  case measure=>simp [intOf];omega
end Go.Proofs.Ytemmjmplhknemaa
