/- Merged by program (merge.py) out of: Gen, CollG, Ref03B, Lst, Slc, Pers, Efv. -/
import Derived.OwnWalk
import Derived.Lib.SliceRun
import Derived.WalkSpells
import Derived.Shelf.Abstract
import Derived.IntWalk
import Derived.Test.YtemmjmplhknemaaMp4
import Derived.Test.YtemmjmplhknemaaMp6
import Derived.Test.YtemmjmplhknemaaMp1
import Derived.Test.YtemmjmplhknemaaMp5
set_option linter.unusedSimpArgs false
set_option linter.unusedVariables false
set_option maxRecDepth 100000
set_option maxHeartbeats 16000000
namespace Go.Proofs.Ytemmjmplhknemaa
open Go.RowKit Go.Shelf
def u64C (z:Int):List Value:= [.int .u64 z]
abbrev WordsAt (w:World) (A:Option Addr) (zs:List Int):Prop:=RowAt 1 u64C w A zs
theorem words_cell {w:World} {b off:Nat} {zs:List Int} (hc:∀i x,zs[i]?=some x→∀j v,(u64C x)[j]?=some v→w.cell? ⟨b,off+i*1+j,none⟩=some v) {k:Nat} (hk:k < zs.length):
  w.cell? ⟨b,off+k,none⟩=some (.int .u64 (zs.getD k 0)):=by
 have h:=hc k zs[k] (by simp [hk]) 0 _ rfl
 simpa [hk]using h
theorem getD_mem {α:Type} {l:List α} {k:Nat} {d:α} (h:k < l.length):l.getD k d∈l:=by
 rw [List.getD_eq_getElem?_getD,List.getElem?_eq_getElem h];exact List.getElem_mem h
theorem u64Cells:Cells 1 u64C:=⟨fun _=>rfl,fun x u h=>by simp [u64C]at h;subst h;rfl⟩
theorem intInfo0:(Try.prog.info? 3).map (fun i=>(i.zero,i.size,i.bytes))=some (some (.int .i64 0),1,8):=by kernel_rfl
theorem intInfo:Info Try.prog 83 3 1 8:=
 ⟨Try.underlying83,by obtain ⟨i0,hi,hz0,hz1,hz2⟩:=info_parts intInfo0;exact ⟨i0,_,hi,hz0,hz1,hz2,rfl⟩,by decide⟩
theorem u64Info0:(Try.prog.info? 54).map (fun i=>(i.zero,i.size,i.bytes))=some (some (.int .u64 0),1,8):=by kernel_rfl
theorem u64Info:Info Try.prog 24 54 1 8:=
 ⟨Try.underlying24,by obtain ⟨i0,hi,hz0,hz1,hz2⟩:=info_parts u64Info0;exact ⟨i0,_,hi,hz0,hz1,hz2,rfl⟩,by decide⟩
theorem row_none {α:Type} {n:Nat} {f:α→List Value} {w:World} {xs:List α} (h:RowAt n f w none xs):xs= []:=by
 obtain ⟨b,off,hA,_⟩:=h
 cases xs with
 | nil=>rfl
 | cons x xs=>exact absurd (hA (by simp)) (by simp)
section
variable {α β : Type} {e e2 : TypeId} {n n2 : Nat} {f : α → List Value} {g : β → List Value} {B B2 : Nat} {v v2 : Value} {xs ys : List α} {zs : List β} {w w' : World} {P : Program} {t : TypeId} {bytes : Nat}
theorem Own.setOther (h:Own e n f w B v xs) {Bo i:Nat} {u:Value} {ws:Array Value} {t:TypeId} {r:Nat×Nat} (hb:w.heap[Bo]?=some (.cells ws t r)) (hne:t≠e):Own e n f (w.setCell ⟨Bo,i,none⟩ u) B v xs:=
 h.same fun g cs ty rr hg hc=>(Below.heap_setCell w ⟨Bo,i,none⟩ u g (fun heq=>by
  simp only at heq
  subst heq
  rcases h.2 with ⟨hv,_⟩ | ⟨b,cap,cur,hv,_,hg2,_⟩
  ·rw [hv]at hg;cases hg
  ·rw [hv]at hg
   have:b=g:=by simpa [Value.ownBlock]using hg
   subst this
   rw [hb]at hg2
   cases hg2
   exact hne rfl)).trans hc
theorem Own.setNe (h:Own e n f w B v xs) {g i:Nat} {u:Value} (hne:v.ownBlock≠some g):Own e n f (w.setCell ⟨g,i,none⟩ u) B v xs:=
 h.same fun b cs ty rr hb hc=>(Below.heap_setCell w ⟨g,i,none⟩ u b (fun heq=>by simp only at heq;subst heq;exact hne hb)).trans hc
end
theorem Own.ne_block {α:Type} {e:TypeId} {n:Nat} {f:α→List Value} {B:Nat} {v:Value} {xs:List α} {w:World} (h:Own e n f w B v xs) {b:Nat} {ws:Array Value} {t:TypeId} {r:Nat×Nat} (hb:w.heap[b]?=some (.cells ws t r)) (hne:t≠e):some b≠v.ownBlock:=fun heq=>by
 rcases h.2 with ⟨hv,_⟩ | ⟨b2,cap,cur,hv,_,hg2,_⟩
 ·rw [hv]at heq;cases heq
 ·rw [hv]at heq
  have:b=b2:=by simpa [Value.ownBlock]using heq
  subst this
  rw [hb]at hg2
  cases hg2
  exact hne rfl
theorem map_snoc {α β:Type} {f:α→β} {l:List α} {d:α} {k:Nat} (hk:k < l.length):(l.take (k+1)).map f=(l.take k).map f++ [f (l.getD k d)]:=by
 rw [List.take_add_one,List.getElem?_eq_getElem hk,List.getD_eq_getElem?_getD,List.getElem?_eq_getElem hk]
 simp only [Option.toList_some,List.map_append,List.map_cons,List.map_nil,Option.getD_some]
theorem all_ofD {α:Type} {d:α} {p:α→Bool} {l:List α} (h:∀i,i < l.length→p (l.getD i d)=true):l.all p=true:=by
 rw [List.all_eq_true]
 intro x hx
 obtain ⟨i,hi,rfl⟩:=List.getElem_of_mem hx
 have:=h i hi
 simpa [List.getElem?_eq_getElem hi]using this
theorem all_notD {α:Type} {d:α} {p:α→Bool} {l:List α} {k:Nat} (hk:k < l.length) (h:p (l.getD k d)=false):l.all p=false:=by
 rw [List.all_eq_false]
 exact ⟨_,getD_mem hk,by rw [h];simp⟩
theorem upTo {α:Type} {d:α} {p:α→Bool} {l:List α} {k:Nat} (hq:∀i,i < k→p (l.getD i d)=true) (h:p (l.getD k d)=true):∀i,i < k+1→p (l.getD i d)=true:=fun i hi=>by
 rcases Nat.lt_or_ge i k with h' | h'
 ·exact hq i h'
 ·obtain rfl:i=k:=by omega
  exact h
theorem own_row {α:Type} {e:TypeId} {n:Nat} {f:α→List Value} {w:World} {B:Nat} {A:Option Addr} {cap:Nat} {xs:List α} (h:Own e n f w B (.slice A xs.length cap) xs) (hf:Cells n f) (hn:0 < n):
  RowAt n f w A xs∧(A=none→cap=0)∧xs.length≤cap:=by
 obtain ⟨A0,cap0,hv,hrow,hnn, -,hcap, -⟩:=h.form hf hn
 injection hv with h1 h2 h3
 subst h1 h3
 exact ⟨hrow,hnn,hcap⟩
theorem wp_norm {P:Program} {c:Code} {Q:Exit→Act→World→Prop} {a:Act} {w:World} (C:Act→World→Prop) (h:c.wp P (fun e a w=>e= .normal∧C a w) a w) (h2:∀a w,C a w→Q .normal a w):c.wp P Q a w:=
 Code.wp_mono (by rintro e a w ⟨rfl,h⟩;exact h2 a w h) h
theorem blk_new (w:World) (cs:Array Value) (t:TypeId) (b:Nat) (hb:w.heap.size=b):(w.alloc (.cells cs t)).heap[b]?=some (.cells cs t (0,0)):=by subst hb;exact World.alloc_heap_new w _
theorem blk_old {w:World} {b:Nat} {o o2:Obj} (h:w.heap[b]?=some o):(w.alloc o2).heap[b]?=some o:=(Below.heap_alloc w o2 b (lt_of_heap h)).trans h
end Go.Proofs.Ytemmjmplhknemaa
namespace Go.Proofs.Ytemmjmplhknemaa
open Go.RowKit
attribute [local go_sem] Oper.semAt_some
section
variable {α : Type} {e : TypeId} {n : Nat} {f : α → List Value} {B : Nat} {v : Value} {xs ys : List α} {w w' : World} {P : Program} {t : TypeId} {bytes : Nat} {F : Fence} {m' : Nat}
theorem wpIn_app {o:Oper} {a:Act} {K:Act→World→Prop} {Q:Exit→Act→World→Prop} (s x:Operand) (t:TypeId)
  (ho:o.op= .call {callee:= .builtin .append,args:= #[s,x],argTypes:= #[t,t]}) (hI:Info P t e n bytes) (hf:Cells n f)
  (hs:a.eval s=v) (hown:Own e n f w B v xs) (ad:Addr) (c:Nat) (ys:List α) (r m:Nat) (hk:xs.length+ys.length=r) (hm:ys.length=m) (hx:a.eval x= .slice (some ad) m c) (hr:RowAt n f w (some ad) ys)
  (hlen:r*bytes≤140737488355328) (h63:r≤maxLen) (hB:B≤w.heap.size)
  (h:∀A cap w',Own e n f w' B (.slice A r cap) (xs++ys)→w.grownBy w' v.ownBlock→
   ((Value.slice A r cap).ownBlock=v.ownBlock∨(Value.slice A r cap).ownBlock=some w.heap.size)→
   K (a.put o.dst (.slice A r cap)) w'):o.wpIn F m' P a w K Q:=by
 subst hk hm
 obtain ⟨A,cap,w',hr',h2,h3,h4⟩:=run_app hI hf o.type hown ad c hr hlen h63 hB
 unfold Oper.wpIn
 refine ⟨by simp [Oper.about,ho,resolve,Target.leads,Sem.run_pure],?_⟩
 rw [Oper.semAt_plain F _ _ (by rw [ho];intro c hc';cases hc')]
 simp only [execOp,ho,resolve,invoke,builtin,Sem.run_bind,Sem.run_pure,Result.andThen_ok,List.map_toArray,List.map_cons,List.map_nil,hs,hx,hr']
 exact h A cap w' h2 h3 h4
theorem wpListIn_app_lit {ops:Array Oper} {rest:List Oper} {o:Oper} {a:Act} {Q:Exit→Act→World→Prop} (hgd:o.guard=none) (s x:Operand) (t:TypeId)
  (ho:o.op= .call {callee:= .builtin .append,args:= #[s,x],argTypes:= #[t,t]}) (hI:Info P t e n bytes) (hf:Cells n f)
  (hs:a.eval s=v) (hown:Own e n f w B v xs) (ys:List α) (c:Nat) (cs:Array Value) (hcs:cs=(ys.flatMap f).toArray) (r m:Nat) (hk:xs.length+ys.length=r) (hm:ys.length=m) (H:Nat) (hx:a.eval x= .slice (some ⟨H,0,none⟩) m c) (hH:w.heap.size=H)
  (hlen:r*bytes≤140737488355328) (h63:r≤maxLen) (hB:B≤w.heap.size)
  (h:∀A cap w',Own e n f w' B (.slice A r cap) (xs++ys)→(w.alloc (.cells cs e)).grownBy w' v.ownBlock→
   ((Value.slice A r cap).ownBlock=v.ownBlock∨(Value.slice A r cap).ownBlock=some (w.heap.size+1))→
   wpListIn F m' P ops Q rest (a.put o.dst (.slice A r cap)) w'):wpListIn F m' P ops Q (o::rest) a (w.alloc (.cells cs e)):=
 wpListIn_plain hgd fun _ hK=>wpIn_app s x t ho hI hf hs (hown.ext ((Ext.refl _).alloc _)) _ c ys r m hk hm (by rw [hx,←hH]) (row_lit w cs hcs hf hI.pos) hlen h63 (by simp;omega) fun A cap w' h2 h3 h4=>hK _ _ (h A cap w' h2 h3 (by simpa using h4))
end
structure CollG {α:Type} (e:TypeId) (n:Nat) (f:α→List Value) (n0 Bout:Nat) (t:TypeId) (pre:List α) (W:World) (v:Value):Prop where
 box:W.heap[Bout]?=some (.cells #[v] t (0,0))
 own:Own e n f W n0 v pre
section
variable {α : Type} {e : TypeId} {n : Nat} {f : α → List Value} {n0 Bout : Nat} {t : TypeId} {pre : List α} {W W' A B : World} {v : Value}
theorem CollG.cell (h:CollG e n f n0 Bout t pre W v):W.cell? ⟨Bout,0,none⟩=some v∧W.frozen? ⟨Bout,0,none⟩=false:=by
 have:=h.box
 constructor <;>simp [World.cell?,World.frozen?,this]
theorem CollG.led (h:CollG e n f n0 Bout t pre W v) (b:Nat):Led W Bout b↔v.ownBlock=some b:=by
 unfold Led
 rw [h.cell.1]
 rcases h.own.2 with ⟨rfl,_⟩ | ⟨g,cap,cur,rfl,_⟩
 ·simp [Value.ownBlock]
 ·simp [Value.ownBlock]
theorem CollG.abI (h:CollG e n f n0 Bout t pre A v) (hB:Bout < n0) (hab:AbI n0 Bout A B):CollG e n f n0 Bout t pre B v:=
 ⟨(hab.below.block Bout hB).trans h.box,h.own.same fun g cs ty r hg hc=>hab.kept g _ hc rfl ((h.led g).2 hg)⟩
theorem CollG.keep (h:CollG e n f n0 Bout t pre A v) (hB:Bout < n0) (hk:∀(k:Nat) (o:Obj),A.heap[k]?=some o→o.isCells=true→B.heap[k]?=some o):CollG e n f n0 Bout t pre B v:=
 ⟨hk Bout _ h.box rfl,h.own.same fun g cs ty r hg hc=>hk g _ hc rfl⟩
theorem CollG.ext (h:CollG e n f n0 Bout t pre W v) (hx:Ext W W'):CollG e n f n0 Bout t pre W' v:=⟨(hx.block (lt_of_heap h.box)).trans h.box,h.own.ext hx⟩
theorem CollG.app (h:CollG e n f n0 Bout t pre W v) (hB:Bout < n0) {nV:Nat} (hV:nV≤Bout) {w1:World} {x:α} {A1:Option Addr} {r cap1 H:Nat} (hn:n0≤W.heap.size) (hH:W.heap.size≤H)
  (hown:Own e n f w1 n0 (.slice A1 r cap1) (pre++ [x])) (hg:W.grownBy w1 v.ownBlock) (hat:(Value.slice A1 r cap1).ownBlock=v.ownBlock∨(Value.slice A1 r cap1).ownBlock=some H):
  (w1.cell? ⟨Bout,0,none⟩=some v∧w1.frozen? ⟨Bout,0,none⟩=false)∧CollG e n f n0 Bout t (pre++ [x]) (w1.setCell ⟨Bout,0,none⟩ (.slice A1 r cap1)) (.slice A1 r cap1)∧
   Kp nV n0 Bout W (w1.setCell ⟨Bout,0,none⟩ (.slice A1 r cap1))∧KeepsFrom n0 W (w1.setCell ⟨Bout,0,none⟩ (.slice A1 r cap1))∧
   ∀k,k < W.heap.size→k≠Bout→v.ownBlock≠some k→(w1.setCell ⟨Bout,0,none⟩ (.slice A1 r cap1)).heap[k]?=W.heap[k]?:=by
 have hlt:=lt_of_heap h.box
 have hbo:v.ownBlock≠some Bout:=fun e=>by have:=(World.ownsRow.lt h.own _ e).1;omega
 have hb1:w1.heap[Bout]?=some (.cells #[v] t (0,0)):=(hg.block Bout hlt (fun e=>hbo e.symm)).trans h.box
 have hbo2:(Value.slice A1 r cap1).ownBlock≠some Bout:=fun e=>by have:=(World.ownsRow.lt hown _ e).1;omega
 have hC:CollG e n f n0 Bout t (pre++ [x]) (w1.setCell ⟨Bout,0,none⟩ (.slice A1 r cap1)) (.slice A1 r cap1):=by
  refine ⟨?_,hown.same fun g cs ty r' hg' hc=> ?_⟩
  ·rw [heap_setCell_same w1 Bout 0 _ _ _ hb1];rfl
  ·rw [Below.heap_setCell w1 ⟨Bout,0,none⟩ _ g (fun e=>hbo2 (by rw [hg'];exact congrArg some e))];exact hc
 refine ⟨⟨by simp [World.cell?,hb1],by simp [World.frozen?,hb1]⟩,hC,⟨?_,fun k o hk ho hc hl=> ?_,fun k hk=> ?_⟩,⟨by simpa using hg.size,fun k o hk ho hc=> ?_⟩,fun k hk hne hov=>(Below.heap_setCell w1 ⟨Bout,0,none⟩ _ k hne).trans (hg.block k hk (fun e=>hov e.symm))⟩
 ·exact ((Below.refl nV W).grown hg (by omega) (fun k e=>by have:=(World.ownsRow.lt h.own k e).1;omega)).setCell (p:=⟨Bout,0,none⟩) hV _
 ·rw [Below.heap_setCell w1 ⟨Bout,0,none⟩ _ k (fun e=>by simp only at e;omega)]
  exact (hg.block k (lt_of_heap ho) (fun e=>hl ((h.led k).2 e.symm))).trans ho
 ·rw [hC.led]at hk
  rcases hat with h1 | h1
  ·exact .inl ((h.led k).2 (by rw [←h1];exact hk))
  ·rw [h1]at hk
   obtain rfl:H=k:=by simpa using hk
   have:=(World.ownsRow.lt hC.own H h1).2
   exact .inr ⟨hH,this⟩
 ·rw [Below.heap_setCell w1 ⟨Bout,0,none⟩ _ k (fun e=>by simp only at e;omega)]
  refine (hg.block k (lt_of_heap ho) (fun e=> ?_)).trans ho
  rcases h.own.2 with ⟨rfl,_⟩ | ⟨g,cap,cur,rfl,_,hgb,_⟩
  ·simp [Value.ownBlock]at e
  ·obtain rfl:k=g:=by simpa [Value.ownBlock]using e
   rw [hgb]at ho;cases ho;cases hc
end
theorem spanInfo0:(Try.prog.info? 62).map (fun i=>(i.zero,i.size,i.bytes))=some (some (.agg #[.int .i64 0,.int .i64 0]),2,16):=by kernel_rfl
theorem spanInfo:Info Try.prog 25 62 2 16:=
 ⟨Try.underlying25,by obtain ⟨i0,hi,hz0,hz1,hz2⟩:=info_parts spanInfo0;exact ⟨i0,_,hi,hz0,hz1,hz2,rfl⟩,by decide⟩
abbrev OwnS (w:World) (B:Nat) (v:Value) (xs:List (Int×Int)):Prop:=Own 62 2 spanC w B v xs
def RetS (w:World) (B:Nat) (xs:List (Int×Int)) (e:Ending) (w':World):Prop:=∃v,e= .returned v∧OwnS w' B v xs∧Below B w w'
end Go.Proofs.Ytemmjmplhknemaa
namespace Go.Proofs.Ytemmjmplhknemaa
open Go.RowKit Go.Shelf
theorem same_ofD {α:Type} {d:α} {xs ys:List α} (hl:xs.length=ys.length) (h:∀i,i < xs.length→xs.getD i d=ys.getD i d):xs=ys:=by
 refine List.ext_getElem hl fun i h1 h2=> ?_
 have:=h i h1
 simpa [List.getElem?_eq_getElem h1,List.getElem?_eq_getElem h2]using this
theorem cloneU_any (A:Option Addr) (cap:Nat) (xs:List Int) (W:World) (hlen:xs.length≤17592186044416) (hl:RowAt 1 u64C W A xs):
  Calls Try.prog 61 #[.slice A xs.length cap] W fun e w'=>∃A1 cap1,e= .returned (.slice A1 xs.length cap1)∧Own 54 1 u64C w' W.heap.size (.slice A1 xs.length cap1) xs∧Ext W w':=by
 have HL:=zH hl
 clear hl
 cases A with
 | none=>
  obtain rfl:=row_none HL.out
  have he:=fun w=>Lib.run_eql_slice_nil (P:=Try.prog) w 24 54 none 0 cap 0 0 Try.underlying24
  simp only [Option.isNone_none]at he
  simp only [List.length_nil]
  clear HL
  go_enter Try.func61,Try.ntmps61
  go_wp2_with fail
  go_ret
  exact ⟨none,0,rfl,Own.nil _ _ _ _ _,Ext.refl _⟩
 | some ad=>
  have he:=fun w=>Lib.run_eql_slice_nil (P:=Try.prog) w 24 54 (some ad) xs.length cap 0 0 Try.underlying24
  simp only [Option.isNone_some]at he
  go_enter Try.func61,Try.ntmps61
  go_wp2_with (at_builtin;refine wpList_app rfl (.tmp 5) (.tmp 6) 24 rfl u64Info u64Cells rfl (by exact Own.empty 54 1 u64C W W.heap.size (Nat.le_refl _)) xs ad cap xs.length xs.length (by simp) rfl rfl (by exact RowAt.ext HL.out ((Ext.refl _).alloc _)) (by omega) (by simp [maxLen];try omega) (by simp) ?_;intro A3 cap3 w3 hown3 hgr3 hat3;have HO3:=zH hown3;have hX3:Ext W w3:=Own.below (Own.empty 54 1 u64C W W.heap.size (Nat.le_refl _)) ((Below.refl _ _).alloc (Nat.le_refl _) _) hgr3 (by simp);clear hown3 hgr3 hat3)
  go_ret
  exact ⟨A3,cap3,rfl,by simpa using HO3.out,hX3⟩
def slotC (x:Bool×Int×Int):List Value:= [.bool x.1,.int .i64 x.2.1,.int .u64 x.2.2]
abbrev SlotsAt (w:World) (A:Option Addr) (xs:List (Bool×Int×Int)):Prop:=RowAt 3 slotC w A xs
theorem slotCells:Cells 3 slotC:=⟨fun _=>rfl,fun x u h=>by simp [slotC]at h;rcases h with rfl | rfl | rfl <;>rfl⟩
theorem slots_cell {w:World} {b off:Nat} {xs:List (Bool×Int×Int)} (hc:∀i x,xs[i]?=some x→∀j v,(slotC x)[j]?=some v→w.cell? ⟨b,off+i*3+j,none⟩=some v) {k:Nat} (hk:k < xs.length):
  w.cell? ⟨b,off+k*3,none⟩=some (.bool (xs.getD k (false,0,0)).1)∧w.cell? ⟨b,off+k*3+1,none⟩=some (.int .i64 (xs.getD k (false,0,0)).2.1)∧w.cell? ⟨b,off+k*3+2,none⟩=some (.int .u64 (xs.getD k (false,0,0)).2.2):=by
 have h0:=hc k xs[k] (by simp [hk]) 0 _ rfl
 have h1:=hc k xs[k] (by simp [hk]) 1 _ rfl
 have h2:=hc k xs[k] (by simp [hk]) 2 _ rfl
 exact ⟨by simpa [hk]using h0,by simpa [hk]using h1,by simpa [hk]using h2⟩
theorem slotInfo0:(Try.prog.info? 56).map (fun i=>(i.zero,i.size,i.bytes))=some (some (.agg #[.bool false,.int .i64 0,.int .u64 0]),3,24):=by kernel_rfl
theorem slotInfo:Info Try.prog 26 56 3 24:=
 ⟨Try.underlying26,by obtain ⟨i0,hi,hz0,hz1,hz2⟩:=info_parts slotInfo0;exact ⟨i0,_,hi,hz0,hz1,hz2,rfl⟩,by decide⟩
theorem equalUS_any (A A2:Option Addr) (cap cap2:Nat) (xs ys:List (Int)) (W:World) (hlen:xs.length≤9223372036854775807) (hlen2:ys.length≤9223372036854775807) (hl:WordsAt W A xs) (hl2:WordsAt W A2 ys):
  Calls Try.prog 29 #[.slice A xs.length cap,.slice A2 ys.length cap2] W fun e w'=>e= .returned (.bool (decide (xs=ys)))∧Ext W w':=by
 have HL:=zH hl
 have HL2:=zH hl2
 clear hl hl2
 by_cases hne:xs.length=ys.length
 rotate_left
 ·have h1:((xs.length:Int) !=(ys.length:Int))=true:=by rw [bne_iff_ne];omega
  have h2:decide (xs=ys)=false:=by simp;intro e;subst e;exact hne rfl
  have HR:=zH h2
  clear h2 hne
  go_enter Try.func29,Try.ntmps29
  go_wp2_with fail
  go_ret
  exact ⟨ret_bool (by rw [HR.out]),Ext.refl _⟩
 have HN:=zH hne
 have h1:((xs.length:Int) !=(ys.length:Int))=false:=by rw [←HN.out];simp
 clear hne
 go_enter Try.func29,Try.ntmps29
 go_wp2_with fail
 go_loopw [5,13] (fun _ i wr=>∃k:Nat,k≤xs.length∧i= .int .i64 k∧Ext W wr∧Hid (∀i,i < k→xs.getD i 0=ys.getD i 0)) (fun _ i _=>xs.length - (intOf i).toNat)
 case atStart=>exact ⟨0,by omega,rfl,Ext.refl _,zH (by omega)⟩
 case round=>
  obtain ⟨k,hk,rfl,hxr,hq⟩:=hrel
  by_cases hlt:k < xs.length
  rotate_left
  ·have HR:=zH (same_ofD HN.out (fun i hi=>hq.out i (by omega)))
   clear hq
   go_wp2_with fail
   go_ret
   exact ⟨ret_bool (by simp [HR.out]),hxr⟩
  have hlt2:k < ys.length:=by have:=HN.out;omega
  obtain ⟨lb,off,rfl,hc⟩:=HL.out.get (by omega)
  obtain ⟨lb2,off2,rfl,hc2⟩:=HL2.out.get (by omega)
  have e1:=words_cell hc hlt
  have f1:=words_cell hc2 hlt2
  have c1:=hxr.cell e1
  have d1:=hxr.cell f1
  have HS:=zH (fun (h:xs.getD k 0=ys.getD k 0)=>(fun i (hi:i < k+1)=>by
   rcases Nat.lt_or_ge i k with h' | h'
   ·exact hq.out i h'
   ·obtain rfl:i=k:=by omega
    exact h:∀i,i < k+1→xs.getD i 0=ys.getD i 0))
  have HD:=zH (fun (h:xs.getD k 0≠ys.getD k 0)=>(fun e:xs=ys=>h (by rw [e]):xs≠ys))
  clear e1 f1 hc hc2 HL HL2 hq HN
  generalize xs.getD k 0=x1 at*
  generalize ys.getD k 0=y1 at*
  have ib1:(k:Int) < (xs.length:Int):=by omega
  have ib2:(k:Int) < (ys.length:Int):=by omega
  have ib3:(0:Int)≤(k:Int):=by omega
  by_cases he:x1=y1
  ·obtain rfl:=he
   go_wp2_with fail
   go_quiet (fail)
   go_wp2_with fail
   go_roundw
   case rel=>exact ⟨k+1,by omega,by go_num,hxr.drewN _,zH (HS.out (by first | rfl | trivial))⟩
   case measure=>simp [intOf];omega
  ·have HE:=zH (HD.out he)
   have hb:(x1==y1)=false:=by rw [beq_eq_false_iff_ne];exact he
   have hb2:(x1 !=y1)=true:=by rw [bne_iff_ne];exact he
   clear he HD HS
   all_goals
    go_wp2_with fail
    go_quiet (fail)
    go_wp2_with fail
    go_ret
    exact ⟨ret_bool (decide_eq_false HE.out).symm,hxr.drewN _⟩
theorem equalSl_any (A A2:Option Addr) (cap cap2:Nat) (xs ys:List (Bool×Int×Int)) (W:World) (hlen:xs.length≤9223372036854775807) (hlen2:ys.length≤9223372036854775807) (hl:SlotsAt W A xs) (hl2:SlotsAt W A2 ys):
  Calls Try.prog 31 #[.slice A xs.length cap,.slice A2 ys.length cap2] W fun e w'=>e= .returned (.bool (decide (xs=ys)))∧Ext W w':=by
 have HL:=zH hl
 have HL2:=zH hl2
 clear hl hl2
 by_cases hne:xs.length=ys.length
 rotate_left
 ·have h1:((xs.length:Int) !=(ys.length:Int))=true:=by rw [bne_iff_ne];omega
  have h2:decide (xs=ys)=false:=by simp;intro e;subst e;exact hne rfl
  have HR:=zH h2
  clear h2 hne
  go_enter Try.func31,Try.ntmps31
  go_wp2_with fail
  go_ret
  exact ⟨ret_bool (by rw [HR.out]),Ext.refl _⟩
 have HN:=zH hne
 have h1:((xs.length:Int) !=(ys.length:Int))=false:=by rw [←HN.out];simp
 clear hne
 go_enter Try.func31,Try.ntmps31
 go_wp2_with fail
 go_loopw [5,13] (fun _ i wr=>∃k:Nat,k≤xs.length∧i= .int .i64 k∧Ext W wr∧Hid (∀i,i < k→xs.getD i (false,0,0)=ys.getD i (false,0,0))) (fun _ i _=>xs.length - (intOf i).toNat)
 case atStart=>exact ⟨0,by omega,rfl,Ext.refl _,zH (by omega)⟩
 case round=>
  obtain ⟨k,hk,rfl,hxr,hq⟩:=hrel
  by_cases hlt:k < xs.length
  rotate_left
  ·have HR:=zH (same_ofD HN.out (fun i hi=>hq.out i (by omega)))
   clear hq
   go_wp2_with fail
   go_ret
   exact ⟨ret_bool (by simp [HR.out]),hxr⟩
  have hlt2:k < ys.length:=by have:=HN.out;omega
  obtain ⟨lb,off,rfl,hc⟩:=HL.out.get (by omega)
  obtain ⟨lb2,off2,rfl,hc2⟩:=HL2.out.get (by omega)
  obtain ⟨e1,e2,e3⟩:=slots_cell hc hlt
  obtain ⟨f1,f2,f3⟩:=slots_cell hc2 hlt2
  have c1:=hxr.cell e1
  have d1:=hxr.cell f1
  have c2:=hxr.cell e2
  have d2:=hxr.cell f2
  have c3:=hxr.cell e3
  have d3:=hxr.cell f3
  have HS:=zH (fun (h:xs.getD k (false,0,0)=ys.getD k (false,0,0))=>(fun i (hi:i < k+1)=>by
   rcases Nat.lt_or_ge i k with h' | h'
   ·exact hq.out i h'
   ·obtain rfl:i=k:=by omega
    exact h:∀i,i < k+1→xs.getD i (false,0,0)=ys.getD i (false,0,0)))
  have HD:=zH (fun (h:xs.getD k (false,0,0)≠ys.getD k (false,0,0))=>(fun e:xs=ys=>h (by rw [e]):xs≠ys))
  clear e1 e2 e3 f1 f2 f3 hc hc2 HL HL2 hq HN
  generalize xs.getD k (false,0,0)=x at*
  generalize ys.getD k (false,0,0)=y at*
  obtain ⟨x1,x2,x3⟩:=x
  obtain ⟨y1,y2,y3⟩:=y
  simp only at c1 d1 c2 d2 c3 d3
  have ib1:(k:Int) < (xs.length:Int):=by omega
  have ib2:(k:Int) < (ys.length:Int):=by omega
  have ib3:(0:Int)≤(k:Int):=by omega
  by_cases he:x1=y1∧x2=y2∧x3=y3
  ·obtain ⟨rfl,rfl,rfl⟩:=he
   go_wp2_with fail
   go_quiet (fail)
   go_wp2_with fail
   go_roundw
   case rel=>exact ⟨k+1,by omega,by go_num,hxr.drewN _,zH (HS.out (by first | rfl | trivial))⟩
   case measure=>simp [intOf];omega
  ·have HE:=zH (HD.out (by intro e;simp only [Prod.mk.injEq]at e;exact he e))
   have hb:((x1==y1)=false)∨(x1=y1∧(x2==y2)=false)∨(x1=y1∧x2=y2∧(x3==y3)=false):=by
    by_cases h1:x1=y1
    rotate_left
    ·exact .inl (by rw [beq_eq_false_iff_ne];exact h1)
    by_cases h2:x2=y2
    rotate_left
    ·exact .inr (.inl ⟨h1,by rw [beq_eq_false_iff_ne];exact h2⟩)
    exact .inr (.inr (⟨h1,h2,by rw [beq_eq_false_iff_ne];exact fun h=>he ⟨h1,h2,h⟩⟩))
   clear he HD HS
   rcases hb with hb | ⟨rfl,hb⟩ | ⟨rfl,rfl,hb⟩
   all_goals
    go_wp2_with fail
    go_quiet (fail)
    go_wp2_with fail
    go_ret
    exact ⟨ret_bool (decide_eq_false HE.out).symm,hxr.drewN _⟩
theorem refsameU_any (A A2:Option Addr) (cap cap2:Nat) (xs ys:List (Int)) (W:World) (hlen:xs.length≤9223372036854775807) (hlen2:ys.length≤9223372036854775807) (hl:WordsAt W A xs) (hl2:WordsAt W A2 ys):
  Calls Try.prog 15 #[.slice A xs.length cap,.slice A2 ys.length cap2] W fun e w'=>e= .returned (.bool (decide (xs=ys)))∧Ext W w':=by
 have HL:=zH hl
 have HL2:=zH hl2
 clear hl hl2
 by_cases hne:xs.length=ys.length
 rotate_left
 ·have h1:((xs.length:Int) !=(ys.length:Int))=true:=by rw [bne_iff_ne];omega
  have h2:decide (xs=ys)=false:=by simp;intro e;subst e;exact hne rfl
  have HR:=zH h2
  clear h2 hne
  go_enter Try.func15,Try.ntmps15
  go_wp2_with fail
  go_ret
  exact ⟨ret_bool (by rw [HR.out]),Ext.refl _⟩
 have HN:=zH hne
 have h1:((xs.length:Int) !=(ys.length:Int))=false:=by rw [←HN.out];simp
 clear hne
 go_enter Try.func15,Try.ntmps15
 go_wp2_with fail
 go_loopw [5] (fun i wr=>∃k:Nat,k≤xs.length∧i= .int .i64 k∧Ext W wr∧Hid (∀i,i < k→xs.getD i 0=ys.getD i 0)) (fun i _=>xs.length - (intOf i).toNat)
 case atStart=>exact ⟨0,by omega,rfl,Ext.refl _,zH (by omega)⟩
 case round=>
  obtain ⟨k,hk,rfl,hxr,hq⟩:=hrel
  by_cases hlt:k < xs.length
  rotate_left
  ·have HR:=zH (same_ofD HN.out (fun i hi=>hq.out i (by omega)))
   clear hq
   go_wp2_with fail
   go_ret
   exact ⟨ret_bool (by simp [HR.out]),hxr⟩
  have hlt2:k < ys.length:=by have:=HN.out;omega
  obtain ⟨lb,off,rfl,hc⟩:=HL.out.get (by omega)
  obtain ⟨lb2,off2,rfl,hc2⟩:=HL2.out.get (by omega)
  have e1:=words_cell hc hlt
  have f1:=words_cell hc2 hlt2
  have c1:=hxr.cell e1
  have d1:=hxr.cell f1
  have HS:=zH (fun (h:xs.getD k 0=ys.getD k 0)=>(fun i (hi:i < k+1)=>by
   rcases Nat.lt_or_ge i k with h' | h'
   ·exact hq.out i h'
   ·obtain rfl:i=k:=by omega
    exact h:∀i,i < k+1→xs.getD i 0=ys.getD i 0))
  have HD:=zH (fun (h:xs.getD k 0≠ys.getD k 0)=>(fun e:xs=ys=>h (by rw [e]):xs≠ys))
  clear e1 f1 hc hc2 HL HL2 hq HN
  generalize xs.getD k 0=x1 at*
  generalize ys.getD k 0=y1 at*
  have ib1:(k:Int) < (xs.length:Int):=by omega
  have ib2:(k:Int) < (ys.length:Int):=by omega
  have ib3:(0:Int)≤(k:Int):=by omega
  by_cases he:x1=y1
  ·obtain rfl:=he
   go_wp2_with fail
   go_quiet (fail)
   go_wp2_with fail
   go_roundw
   case rel=>exact ⟨k+1,by omega,by go_num,hxr.drewN _,zH (HS.out (by first | rfl | trivial))⟩
   case measure=>simp [intOf];omega
  ·have HE:=zH (HD.out he)
   have hb:(x1==y1)=false:=by rw [beq_eq_false_iff_ne];exact he
   have hb2:(x1 !=y1)=true:=by rw [bne_iff_ne];exact he
   clear he HD HS
   all_goals
    go_wp2_with fail
    go_quiet (fail)
    go_wp2_with fail
    go_ret
    exact ⟨ret_bool (decide_eq_false HE.out).symm,hxr.drewN _⟩
theorem refsameSl_any (A A2:Option Addr) (cap cap2:Nat) (xs ys:List (Bool×Int×Int)) (W:World) (hlen:xs.length≤9223372036854775807) (hlen2:ys.length≤9223372036854775807) (hl:SlotsAt W A xs) (hl2:SlotsAt W A2 ys):
  Calls Try.prog 17 #[.slice A xs.length cap,.slice A2 ys.length cap2] W fun e w'=>e= .returned (.bool (decide (xs=ys)))∧Ext W w':=by
 have HL:=zH hl
 have HL2:=zH hl2
 clear hl hl2
 by_cases hne:xs.length=ys.length
 rotate_left
 ·have h1:((xs.length:Int) !=(ys.length:Int))=true:=by rw [bne_iff_ne];omega
  have h2:decide (xs=ys)=false:=by simp;intro e;subst e;exact hne rfl
  have HR:=zH h2
  clear h2 hne
  go_enter Try.func17,Try.ntmps17
  go_wp2_with fail
  go_ret
  exact ⟨ret_bool (by rw [HR.out]),Ext.refl _⟩
 have HN:=zH hne
 have h1:((xs.length:Int) !=(ys.length:Int))=false:=by rw [←HN.out];simp
 clear hne
 go_enter Try.func17,Try.ntmps17
 go_wp2_with fail
 go_loopw [5] (fun i wr=>∃k:Nat,k≤xs.length∧i= .int .i64 k∧Ext W wr∧Hid (∀i,i < k→xs.getD i (false,0,0)=ys.getD i (false,0,0))) (fun i _=>xs.length - (intOf i).toNat)
 case atStart=>exact ⟨0,by omega,rfl,Ext.refl _,zH (by omega)⟩
 case round=>
  obtain ⟨k,hk,rfl,hxr,hq⟩:=hrel
  by_cases hlt:k < xs.length
  rotate_left
  ·have HR:=zH (same_ofD HN.out (fun i hi=>hq.out i (by omega)))
   clear hq
   go_wp2_with fail
   go_ret
   exact ⟨ret_bool (by simp [HR.out]),hxr⟩
  have hlt2:k < ys.length:=by have:=HN.out;omega
  obtain ⟨lb,off,rfl,hc⟩:=HL.out.get (by omega)
  obtain ⟨lb2,off2,rfl,hc2⟩:=HL2.out.get (by omega)
  obtain ⟨e1,e2,e3⟩:=slots_cell hc hlt
  obtain ⟨f1,f2,f3⟩:=slots_cell hc2 hlt2
  have c1:=hxr.cell e1
  have d1:=hxr.cell f1
  have c2:=hxr.cell e2
  have d2:=hxr.cell f2
  have c3:=hxr.cell e3
  have d3:=hxr.cell f3
  have HS:=zH (fun (h:xs.getD k (false,0,0)=ys.getD k (false,0,0))=>(fun i (hi:i < k+1)=>by
   rcases Nat.lt_or_ge i k with h' | h'
   ·exact hq.out i h'
   ·obtain rfl:i=k:=by omega
    exact h:∀i,i < k+1→xs.getD i (false,0,0)=ys.getD i (false,0,0)))
  have HD:=zH (fun (h:xs.getD k (false,0,0)≠ys.getD k (false,0,0))=>(fun e:xs=ys=>h (by rw [e]):xs≠ys))
  clear e1 e2 e3 f1 f2 f3 hc hc2 HL HL2 hq HN
  generalize xs.getD k (false,0,0)=x at*
  generalize ys.getD k (false,0,0)=y at*
  obtain ⟨x1,x2,x3⟩:=x
  obtain ⟨y1,y2,y3⟩:=y
  simp only at c1 d1 c2 d2 c3 d3
  have ib1:(k:Int) < (xs.length:Int):=by omega
  have ib2:(k:Int) < (ys.length:Int):=by omega
  have ib3:(0:Int)≤(k:Int):=by omega
  by_cases he:x1=y1∧x2=y2∧x3=y3
  ·obtain ⟨rfl,rfl,rfl⟩:=he
   go_wp2_with fail
   go_quiet (fail)
   go_wp2_with fail
   go_roundw
   case rel=>exact ⟨k+1,by omega,by go_num,hxr.drewN _,zH (HS.out (by first | rfl | trivial))⟩
   case measure=>simp [intOf];omega
  ·have HE:=zH (HD.out (by intro e;simp only [Prod.mk.injEq]at e;exact he e))
   have hb:((x1==y1)=false)∨(x1=y1∧(x2==y2)=false)∨(x1=y1∧x2=y2∧(x3==y3)=false):=by
    by_cases h1:x1=y1
    rotate_left
    ·exact .inl (by rw [beq_eq_false_iff_ne];exact h1)
    by_cases h2:x2=y2
    rotate_left
    ·exact .inr (.inl ⟨h1,by rw [beq_eq_false_iff_ne];exact h2⟩)
    exact .inr (.inr (⟨h1,h2,by rw [beq_eq_false_iff_ne];exact fun h=>he ⟨h1,h2,h⟩⟩))
   clear he HD HS
   rcases hb with hb | ⟨rfl,hb⟩ | ⟨rfl,rfl,hb⟩
   all_goals
    go_wp2_with fail
    go_quiet (fail)
    go_wp2_with fail
    go_ret
    exact ⟨ret_bool (decide_eq_false HE.out).symm,hxr.drewN _⟩
end Go.Proofs.Ytemmjmplhknemaa
namespace Go.Proofs.Ytemmjmplhknemaa
open Go.RowKit
def Pers (W:World) (P:World→Prop):Prop:=∀w,Ext W w→P w
section
variable {W W1 w : World} {P : World → Prop}
theorem Pers.at (h:Pers W P) (hx:Ext W w):P w:=h w hx
theorem Pers.re (h:Pers W P) (hx:Ext W W1):Pers W1 P:=fun w k=>h w (hx.trans k)
theorem Pers.here (h:Pers W P):P W:=h W (Ext.refl W)
theorem pers_row {α:Type} {n:Nat} {f:α→List Value} {A:Option Addr} {xs:List α} (h:RowAt n f W A xs):Pers W (fun w=>RowAt n f w A xs):=fun _ k=>h.ext k
theorem pers_own {α:Type} {e:TypeId} {n:Nat} {f:α→List Value} {B:Nat} {v:Value} {xs:List α} (h:Own e n f W B v xs):Pers W (fun w=>Own e n f w B v xs):=fun _ k=>h.ext k
theorem pers_blk {b:Nat} {o:Obj} (h:W.heap[b]?=some o):Pers W (fun w=>w.heap[b]?=some o):=fun _ k=>(k.block (lt_of_heap h)).trans h
theorem pers_new (w:World) (cs:Array Value) (t:TypeId) (b:Nat) (hb:w.heap.size=b):Pers (w.alloc (.cells cs t)) (fun w=>w.heap[b]?=some (.cells cs t (0,0))):=pers_blk (blk_new w cs t b hb)
theorem pers_new2 (w:World) (cs:Array Value) (t:TypeId) (b:Nat) (hb:w.heap.size=b) (o2:Obj):Pers ((w.alloc (.cells cs t)).alloc o2) (fun w=>w.heap[b]?=some (.cells cs t (0,0))):=pers_blk (blk_old (blk_new w cs t b hb))
theorem Pers.cells {b:Nat} {cs:Array Value} {t:TypeId} (h:Pers W (fun w=>w.heap[b]?=some (.cells cs t (0,0)))):∀(u:ExtOf W) (i:Nat),u.1.cell? ⟨b,i,none⟩=cs[i]?:=fun u i=>by
 have:=h u.1 u.2
 simp [World.cell?,this]
theorem Pers.frees {b:Nat} {cs:Array Value} {t:TypeId} (h:Pers W (fun w=>w.heap[b]?=some (.cells cs t (0,0)))):∀(u:ExtOf W) (i:Nat),u.1.frozen? ⟨b,i,none⟩=false:=fun u i=>by
 have:=h u.1 u.2
 simp [World.frozen?,this]
theorem Pers.lt {b:Nat} {o:Obj} (h:Pers W (fun w=>w.heap[b]?=some o)):∀u:ExtOf W,b < u.1.heap.size:=fun u=>lt_of_heap (h u.1 u.2)
theorem ExtOf.ext (u:ExtOf W):Ext W u.1:=u.2
theorem at_baseC {P:Program} {f:FuncId} {args:Array Value} {Q:Ending→World→Prop} (h:∀u:ExtOf W,Calls P f args u.1 Q):Calls P f args W Q:=h ⟨W,Ext.refl W⟩
theorem at_base {G:World→Prop} (h:∀u:ExtOf W,G u.1):G W:=h ⟨W,Ext.refl W⟩
theorem blk_set {b i:Nat} {cs:Array Value} {t:TypeId} (h:W.heap[b]?=some (.cells cs t (0,0))) (v:Value):(W.setCell ⟨b,i,none⟩ v).heap[b]?=some (.cells (cs.setIfInBounds i v) t (0,0)):=heap_setCell_same W b i _ _ _ h
theorem blk_set_other {b c i:Nat} {o:Obj} (h:W.heap[b]?=some o) (v:Value) (hne:b≠c):(W.setCell ⟨c,i,none⟩ v).heap[b]?=some o:=(Below.heap_setCell W ⟨c,i,none⟩ v b hne).trans h
theorem arr5 {α:Type} {cs:Array α} (h:cs.size=5):∃a b c d e,cs= #[a,b,c,d,e]:=by
 obtain ⟨l⟩:=cs
 match l,h with
 | [a,b,c,d,e],_=>exact ⟨a,b,c,d,e,rfl⟩
theorem cells_of {b:Nat} {cs:Array Value} {t:TypeId} (h:W.heap[b]?=some (.cells cs t (0,0))):(∀i,W.cell? ⟨b,i,none⟩=cs[i]?)∧∀i,W.frozen? ⟨b,i,none⟩=false:=⟨fun i=>by simp [World.cell?,h],fun i=>by simp [World.frozen?,h]⟩
theorem pers_cell {p:Addr} {v:Value} (h:W.cell? p=some v):∀u:ExtOf W,u.1.cell? p=some v:=fun u=>u.2.cell h
end
structure Behind (P:Act→World→Prop) (a:Act) (w:World):Prop where
 mk::
 out:P a w
end Go.Proofs.Ytemmjmplhknemaa
