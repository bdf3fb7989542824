/- Merged by program (merge.py) out of: Gen, CollG, Ref03B, Lst, Slc, Pers, Boo, GraA, GraB, GraC, Efv. -/
import Derived.Test.YtphpppjfogpohaaGreatMq0
import Derived.OwnWalk
import Derived.Lib.SliceRun
import Derived.WalkSpells
import Derived.Shelf.Abstract
import Derived.IntWalk
import Derived.Test.YtphpppjfogpohaaGreatMq4
import Derived.Test.YtphpppjfogpohaaGreatMq6
import Derived.Test.YtphpppjfogpohaaGreatMq1
import Derived.Test.YtphpppjfogpohaaGreatMq5
import Derived.Test.YtphpppjfogpohaaGreatMq3
set_option linter.unusedSimpArgs false
set_option linter.unusedVariables false
set_option maxRecDepth 100000
set_option maxHeartbeats 16000000
namespace Go.Proofs.YtphpppjfogpohaaGreat
open Go.RowKit Go.Shelf
def u64C (z:Int):List Value:= [.int .u64 z]
abbrev WordsAt (w:World) (A:Option Addr) (zs:List Int):Prop:=RowAt 1 u64C w A zs
theorem cJ {w:World} {b off:Nat} {zs:List Int} (hc:∀i x,zs[i]?=some x→∀j v,(u64C x)[j]?=some v→w.cell? ⟨b,off+i*1+j,none⟩=some v) {k:Nat} (hk:k < zs.length):
  w.cell? ⟨b,off+k,none⟩=some (.int .u64 (zs.getD k 0)):=by
 have h:=hc k zs[k] (by simp [hk]) 0 _ rfl
 simpa [hk]using h
theorem aF {α:Type} {l:List α} {k:Nat} {d:α} (h:k < l.length):l.getD k d∈l:=by
 rw [List.getD_eq_getElem?_getD,List.getElem?_eq_getElem h];exact List.getElem_mem h
theorem dB:Cells 1 u64C:=⟨fun _=>rfl,fun x u h=>by simp [u64C]at h;subst h;rfl⟩
theorem vX:(Tryz.prog.info? 3).map (fun i=>(i.zero,i.size,i.bytes))=some (some (.int .i64 0),1,8):=by kernel_rfl
theorem bj:Info Tryz.prog 38 3 1 8:=
 ⟨Tryz.underlying38,by obtain ⟨i0,hi,hz0,hz1,hz2⟩:=info_parts vX;exact ⟨i0,_,hi,hz0,hz1,hz2,rfl⟩,by decide⟩
theorem pQ:(Tryz.prog.info? 61).map (fun i=>(i.zero,i.size,i.bytes))=some (some (.int .u64 0),1,8):=by kernel_rfl
theorem sq:Info Tryz.prog 30 61 1 8:=
 ⟨Tryz.underlying30,by obtain ⟨i0,hi,hz0,hz1,hz2⟩:=info_parts pQ;exact ⟨i0,_,hi,hz0,hz1,hz2,rfl⟩,by decide⟩
theorem ff {α:Type} {n:Nat} {f:α→List Value} {w:World} {xs:List α} (h:RowAt n f w none xs):xs= []:=by
 obtain ⟨b,off,hA,_⟩:=h
 cases xs with
 | nil=>rfl
 | cons x xs=>exact absurd (hA sM) sM
section
variable {α β : Type} {e e2 : TypeId} {n n2 : Nat} {f : α → List Value} {g : β → List Value} {B B2 : Nat} {v v2 : Value} {xs ys : List α} {zs : List β} {w w' : World} {P : Program} {t : TypeId} {bytes : Nat}
theorem Own.apart (h:Own e n f w B v xs) (h2:Own e2 n2 g w B2 v2 zs) (hne:e≠e2):v.ownBlock=none∨v.ownBlock≠v2.ownBlock:=by
 rcases h.2 with ⟨rfl,_⟩ | ⟨b,cap,cur,rfl,hb,hg,_⟩
 ·exact .inl rfl
 ·refine .inr fun heq=> ?_
  rcases h2.2 with ⟨rfl,_⟩ | ⟨b2,cap2,cur2,rfl,hb2,hg2,_⟩
  ·cases heq
  ·have:b=b2:=by simpa [Value.ownBlock]using heq
   subst this
   rw [hg]at hg2
   cases hg2
   exact hne rfl
theorem Own.keep2 (h:Own e n f w B v xs) (h2:Own e2 n2 g w B2 v2 zs) (hne:e≠e2) (hg:w.grownBy w' v2.ownBlock):Own e n f w' B v xs:=h.kept hg (h.apart h2 hne)
theorem Own.setOther (h:Own e n f w B v xs) {Bo i:Nat} {u:Value} {ws:Array Value} {t:TypeId} {r:Nat×Nat} (hb:w.heap[Bo]?=some (.cells ws t r)) (hne:t≠e):Own e n f (w.setCell ⟨Bo,i,none⟩ u) B v xs:=
 h.same fun g cs ty rr hg hc=>(Below.heap_setCell w ⟨Bo,i,none⟩ u g (fun heq=>by
  simp only at heq
  subst heq
  rcases h.2 with ⟨hv,_⟩ | ⟨b,cap,cur,hv,_,hg2,_⟩
  ·rw [hv]at hg;cases hg
  ·rw [hv]at hg
   have:b=g:=by simpa [Value.ownBlock]using hg
   subst this
   rw [hb]at hg2
   cases hg2
   exact hne rfl)).trans hc
theorem Own.setNe (h:Own e n f w B v xs) {g i:Nat} {u:Value} (hne:v.ownBlock≠some g):Own e n f (w.setCell ⟨g,i,none⟩ u) B v xs:=
 h.same fun b cs ty rr hb hc=>(Below.heap_setCell w ⟨g,i,none⟩ u b (fun heq=>by simp only at heq;subst heq;exact hne hb)).trans hc
abbrev AT := @Own.setNe
end
theorem Own.ne_block {α:Type} {e:TypeId} {n:Nat} {f:α→List Value} {B:Nat} {v:Value} {xs:List α} {w:World} (h:Own e n f w B v xs) {b:Nat} {ws:Array Value} {t:TypeId} {r:Nat×Nat} (hb:w.heap[b]?=some (.cells ws t r)) (hne:t≠e):some b≠v.ownBlock:=fun heq=>by
 rcases h.2 with ⟨hv,_⟩ | ⟨b2,cap,cur,hv,_,hg2,_⟩
 ·rw [hv]at heq;cases heq
 ·rw [hv]at heq
  have:b=b2:=by simpa [Value.ownBlock]using heq
  subst this
  rw [hb]at hg2
  cases hg2
  exact hne rfl
theorem pR {α β:Type} {f:α→β} {l:List α} {d:α} {k:Nat} (hk:k < l.length):(l.take (k+1)).map f=(l.take k).map f++ [f (l.getD k d)]:=by
 rw [List.take_add_one,List.getElem?_eq_getElem hk,List.getD_eq_getElem?_getD,List.getElem?_eq_getElem hk]
 simp only [Option.toList_some,List.map_append,List.map_cons,List.map_nil,Option.getD_some]
theorem d9 {α:Type} {d:α} {p:α→Bool} {l:List α} (h:∀i,i < l.length→p (l.getD i d)=true):l.all p=true:=by
 rw [List.all_eq_true]
 intro x hx
 obtain ⟨i,hi,rfl⟩:=List.getElem_of_mem hx
 have:=h i hi
 simpa [List.getElem?_eq_getElem hi]using this
theorem cg {α:Type} {d:α} {p:α→Bool} {l:List α} {k:Nat} (hk:k < l.length) (h:p (l.getD k d)=false):l.all p=false:=by
 rw [List.all_eq_false]
 exact ⟨_,aF hk,by rw [h];simp⟩
theorem upTo {α:Type} {d:α} {p:α→Bool} {l:List α} {k:Nat} (hq:∀i,i < k→p (l.getD i d)=true) (h:p (l.getD k d)=true):∀i,i < k+1→p (l.getD i d)=true:=fun i hi=>by
 rcases Nat.lt_or_ge i k with h' | h'
 ·exact hq i h'
 ·obtain rfl:i=k:=by omega
  exact h
theorem ag {α:Type} {e:TypeId} {n:Nat} {f:α→List Value} {w:World} {B:Nat} {A:Option Addr} {cap:Nat} {xs:List α} (h:Own e n f w B (.slice A xs.length cap) xs) (hf:Cells n f) (hn:0 < n):
  RowAt n f w A xs∧(A=none→cap=0)∧xs.length≤cap:=by
 obtain ⟨A0,cap0,hv,hrow,hnn, -,hcap, -⟩:=h.form hf hn
 injection hv with h1 h2 h3
 subst h1 h3
 exact ⟨hrow,hnn,hcap⟩
theorem kE {P:Program} {c:Code} {Q:Exit→Act→World→Prop} {a:Act} {w:World} (C:Act→World→Prop) (h:c.wp P (fun e a w=>e= .normal∧C a w) a w) (h2:∀a w,C a w→Q .normal a w):c.wp P Q a w:=
 Code.wp_mono (by rintro e a w ⟨rfl,h⟩;exact h2 a w h) h
theorem ci {α:Type} {e:TypeId} {n:Nat} {f:α→List Value} {B g len cap:Nat} {xs:List α} {w:World} (h:Own e n f w B (.slice (some ⟨g,0,none⟩) len cap) xs):∃cur,w.heap[g]?=some (.cells cur e (0,0)):=by
 rcases h.2 with ⟨hv,_⟩ | ⟨b2,cap2,cur,hv,_,hg2,_⟩
 ·cases hv
 ·injection hv with h1 h2 h3
  injection h1 with h1
  injection h1 with h1
  subst h1
  exact ⟨cur,hg2⟩
theorem bR {α:Type} {e:TypeId} {n:Nat} {f:α→List Value} {w:World} {B:Nat} {A:Option Addr} {len cap:Nat} {xs:List α} (h:Own e n f w B (.slice A len cap) xs) (hn:xs≠ []):∃g,A=some ⟨g,0,none⟩∧B≤g∧g < w.heap.size:=by
 rcases h.2 with ⟨_,h0⟩ | ⟨b,cap2,cur,hv,hb,hg,_⟩
 ·exact absurd (List.eq_nil_of_length_eq_zero h0) hn
 ·injection hv with h1 h2 h3
  exact ⟨b,h1,hb,aA hg⟩
theorem kF {w:World} {b o:Nat} {v:Value} (h:w.cell? ⟨b,o,none⟩=some v):b < w.heap.size:=by
 unfold World.cell? at h
 rcases Nat.lt_or_ge b w.heap.size with h2 | h2
 ·exact h2
 ·rw [Array.getElem?_eq_none h2]at h;cases h
theorem el {α:Type} {e:TypeId} {n:Nat} {f:α→List Value} {w:World} {b:Nat} {cs:Array Value} {xs:List α} (h:w.heap[b]?=some (.cells cs e (0,0))) (hcs:cs=(xs.flatMap f).toArray) (hf:Cells n f) (hn:0 < n):RowAt n f w (some ⟨b,0,none⟩) xs:=by
 refine ⟨b,0,fun _=>rfl,fun i x hx j u hu=> ?_⟩
 have:=eY hf hn hx hu
 subst hcs
 simpa [World.cell?,h]using this
theorem aR (w:World) (cs:Array Value) (t:TypeId) (b:Nat) (hb:w.heap.size=b):(w.alloc (.cells cs t)).heap[b]?=some (.cells cs t (0,0)):=by subst hb;exact World.alloc_heap_new w _
theorem b8 {w:World} {b:Nat} {o o2:Obj} (h:w.heap[b]?=some o):(w.alloc o2).heap[b]?=some o:=(Below.heap_alloc w o2 b (aA h)).trans h
theorem sr:∀(xs:List Int) (k:Nat) (z:Int),(xs.flatMap u64C).set k (.int .u64 z)=(xs.set k z).flatMap u64C
 | [],k,z=>by simp
 | x::xs,0,z=>by simp [u64C]
 | x::xs,k+1,z=>by
  have h:=sr xs k z
  simp only [List.flatMap_cons,List.set_cons_succ]
  rw [←h]
  simp [u64C]
end Go.Proofs.YtphpppjfogpohaaGreat
namespace Go.Proofs.YtphpppjfogpohaaGreat
open Go.RowKit
attribute [local go_sem] Oper.semAt_some
section
variable {α : Type} {e : TypeId} {n : Nat} {f : α → List Value} {B : Nat} {v : Value} {xs ys : List α} {w w' : World} {P : Program} {t : TypeId} {bytes : Nat} {F : Fence} {m' : Nat}
theorem vY {o:Oper} {a:Act} {K:Act→World→Prop} {Q:Exit→Act→World→Prop} (s x:Operand) (t:TypeId)
  (ho:o.op= .call {callee:= .builtin .append,args:= #[s,x],argTypes:= #[t,t]}) (hI:Info P t e n bytes) (hf:Cells n f)
  (hs:a.eval s=v) (hown:Own e n f w B v xs) (ad:Addr) (c:Nat) (ys:List α) (r m:Nat) (hk:xs.length+ys.length=r) (hm:ys.length=m) (hx:a.eval x= .slice (some ad) m c) (hr:RowAt n f w (some ad) ys)
  (hlen:r*bytes≤140737488355328) (h63:r≤maxLen) (hB:B≤w.heap.size)
  (h:∀A cap w',Own e n f w' B (.slice A r cap) (xs++ys)→w.grownBy w' v.ownBlock→
   ((Value.slice A r cap).ownBlock=v.ownBlock∨(Value.slice A r cap).ownBlock=some w.heap.size)→
   K (a.put o.dst (.slice A r cap)) w'):o.wpIn F m' P a w K Q:=by
 subst hk hm
 obtain ⟨A,cap,w',hr',h2,h3,h4⟩:=sk hI hf o.type hown ad c hr hlen h63 hB
 unfold Oper.wpIn
 refine ⟨by simp [Oper.about,ho,resolve,Target.leads,Sem.run_pure],?_⟩
 rw [Oper.semAt_plain F _ _ (by rw [ho];intro c hc';cases hc')]
 simp only [execOp,ho,resolve,invoke,builtin,Sem.run_bind,Sem.run_pure,Result.andThen_ok,List.map_toArray,List.map_cons,List.map_nil,hs,hx,hr']
 exact h A cap w' h2 h3 h4
theorem fg {ops:Array Oper} {rest:List Oper} {o:Oper} {a:Act} {Q:Exit→Act→World→Prop} (hgd:o.guard=none) (s x:Operand) (t:TypeId)
  (ho:o.op= .call {callee:= .builtin .append,args:= #[s,x],argTypes:= #[t,t]}) (hI:Info P t e n bytes) (hf:Cells n f)
  (hs:a.eval s=v) (hown:Own e n f w B v xs) (ys:List α) (c:Nat) (cs:Array Value) (hcs:cs=(ys.flatMap f).toArray) (r m:Nat) (hk:xs.length+ys.length=r) (hm:ys.length=m) (H:Nat) (hx:a.eval x= .slice (some ⟨H,0,none⟩) m c) (hH:w.heap.size=H)
  (hlen:r*bytes≤140737488355328) (h63:r≤maxLen) (hB:B≤w.heap.size)
  (h:∀A cap w',Own e n f w' B (.slice A r cap) (xs++ys)→(w.alloc (.cells cs e)).grownBy w' v.ownBlock→
   ((Value.slice A r cap).ownBlock=v.ownBlock∨(Value.slice A r cap).ownBlock=some (w.heap.size+1))→
   wpListIn F m' P ops Q rest (a.put o.dst (.slice A r cap)) w'):wpListIn F m' P ops Q (o::rest) a (w.alloc (.cells cs e)):=
 wpListIn_plain hgd fun _ hK=>vY s x t ho hI hf hs (hown.ext ((AD _).alloc _)) _ c ys r m hk hm (by rw [hx,←hH]) (kD w cs hcs hf hI.pos) hlen h63 (by simp;omega) fun A cap w' h2 h3 h4=>hK _ _ (h A cap w' h2 h3 (by simpa using h4))
end
structure CollG {α:Type} (e:TypeId) (n:Nat) (f:α→List Value) (n0 Bout:Nat) (t:TypeId) (pre:List α) (W:World) (v:Value):Prop where
 box:W.heap[Bout]?=some (.cells #[v] t (0,0))
 own:Own e n f W n0 v pre
section
variable {α : Type} {e : TypeId} {n : Nat} {f : α → List Value} {n0 Bout : Nat} {t : TypeId} {pre : List α} {W W' A B : World} {v : Value}
theorem CollG.cell (h:CollG e n f n0 Bout t pre W v):W.cell? ⟨Bout,0,none⟩=some v∧W.frozen? ⟨Bout,0,none⟩=false:=by
 have:=h.box
 constructor <;>simp [World.cell?,World.frozen?,this]
theorem CollG.led (h:CollG e n f n0 Bout t pre W v) (b:Nat):Led W Bout b↔v.ownBlock=some b:=by
 unfold Led
 rw [h.cell.1]
 rcases h.own.2 with ⟨rfl,_⟩ | ⟨g,cap,cur,rfl,_⟩
 ·simp [Value.ownBlock]
 ·simp [Value.ownBlock]
theorem CollG.abI (h:CollG e n f n0 Bout t pre A v) (hB:Bout < n0) (hab:AbI n0 Bout A B):CollG e n f n0 Bout t pre B v:=
 ⟨(hab.below.block Bout hB).trans h.box,h.own.same fun g cs ty r hg hc=>hab.kept g _ hc rfl ((h.led g).2 hg)⟩
theorem CollG.keep (h:CollG e n f n0 Bout t pre A v) (hB:Bout < n0) (hk:∀(k:Nat) (o:Obj),A.heap[k]?=some o→o.isCells=true→B.heap[k]?=some o):CollG e n f n0 Bout t pre B v:=
 ⟨hk Bout _ h.box rfl,h.own.same fun g cs ty r hg hc=>hk g _ hc rfl⟩
theorem CollG.ext (h:CollG e n f n0 Bout t pre W v) (hx:Ext W W'):CollG e n f n0 Bout t pre W' v:=⟨(hx.block (aA h.box)).trans h.box,h.own.ext hx⟩
theorem CollG.app (h:CollG e n f n0 Bout t pre W v) (hB:Bout < n0) {nV:Nat} (hV:nV≤Bout) {w1:World} {x:α} {A1:Option Addr} {r cap1 H:Nat} (hn:n0≤W.heap.size) (hH:W.heap.size≤H)
  (hown:Own e n f w1 n0 (.slice A1 r cap1) (pre++ [x])) (hg:W.grownBy w1 v.ownBlock) (hat:(Value.slice A1 r cap1).ownBlock=v.ownBlock∨(Value.slice A1 r cap1).ownBlock=some H):
  (w1.cell? ⟨Bout,0,none⟩=some v∧w1.frozen? ⟨Bout,0,none⟩=false)∧CollG e n f n0 Bout t (pre++ [x]) (w1.setCell ⟨Bout,0,none⟩ (.slice A1 r cap1)) (.slice A1 r cap1)∧
   Kp nV n0 Bout W (w1.setCell ⟨Bout,0,none⟩ (.slice A1 r cap1))∧KeepsFrom n0 W (w1.setCell ⟨Bout,0,none⟩ (.slice A1 r cap1))∧
   ∀k,k < W.heap.size→k≠Bout→v.ownBlock≠some k→(w1.setCell ⟨Bout,0,none⟩ (.slice A1 r cap1)).heap[k]?=W.heap[k]?:=by
 have hlt:=aA h.box
 have hbo:v.ownBlock≠some Bout:=fun e=>by have:=(World.ownsRow.lt h.own _ e).1;omega
 have hb1:w1.heap[Bout]?=some (.cells #[v] t (0,0)):=(hg.block Bout hlt (fun e=>hbo e.symm)).trans h.box
 have hbo2:(Value.slice A1 r cap1).ownBlock≠some Bout:=fun e=>by have:=(World.ownsRow.lt hown _ e).1;omega
 have hC:CollG e n f n0 Bout t (pre++ [x]) (w1.setCell ⟨Bout,0,none⟩ (.slice A1 r cap1)) (.slice A1 r cap1):=by
  refine ⟨?_,hown.same fun g cs ty r' hg' hc=> ?_⟩
  ·rw [heap_setCell_same w1 Bout 0 _ _ _ hb1];rfl
  ·rw [Below.heap_setCell w1 ⟨Bout,0,none⟩ _ g (fun e=>hbo2 (by rw [hg'];exact congrArg some e))];exact hc
 refine ⟨⟨by simp [World.cell?,hb1],by simp [World.frozen?,hb1]⟩,hC,⟨?_,fun k o hk ho hc hl=> ?_,fun k hk=> ?_⟩,⟨by simpa using hg.size,fun k o hk ho hc=> ?_⟩,fun k hk hne hov=>(Below.heap_setCell w1 ⟨Bout,0,none⟩ _ k hne).trans (hg.block k hk (fun e=>hov e.symm))⟩
 ·exact ((Below.refl nV W).grown hg oM (fun k e=>by have:=(World.ownsRow.lt h.own k e).1;omega)).setCell (p:=⟨Bout,0,none⟩) hV _
 ·rw [Below.heap_setCell w1 ⟨Bout,0,none⟩ _ k (fun e=>by simp only at e;omega)]
  exact (hg.block k (aA ho) (fun e=>hl ((h.led k).2 e.symm))).trans ho
 ·rw [hC.led]at hk
  rcases hat with h1 | h1
  ·exact .inl ((h.led k).2 (by rw [←h1];exact hk))
  ·rw [h1]at hk
   obtain rfl:H=k:=by simpa using hk
   have:=(World.ownsRow.lt hC.own H h1).2
   exact .inr ⟨hH,this⟩
 ·rw [Below.heap_setCell w1 ⟨Bout,0,none⟩ _ k (fun e=>by simp only at e;omega)]
  refine (hg.block k (aA ho) (fun e=> ?_)).trans ho
  rcases h.own.2 with ⟨rfl,_⟩ | ⟨g,cap,cur,rfl,_,hgb,_⟩
  ·simp [Value.ownBlock]at e
  ·obtain rfl:k=g:=by simpa [Value.ownBlock]using e
   rw [hgb]at ho;cases ho;cases hc
end
theorem tm:(Tryz.prog.info? 63).map (fun i=>(i.zero,i.size,i.bytes))=some (some (.agg #[.int .i64 0,.int .i64 0]),2,16):=by kernel_rfl
theorem ae:Info Tryz.prog 31 63 2 16:=
 ⟨Tryz.underlying31,by obtain ⟨i0,hi,hz0,hz1,hz2⟩:=info_parts tm;exact ⟨i0,_,hi,hz0,hz1,hz2,rfl⟩,by decide⟩
abbrev OwnS (w:World) (B:Nat) (v:Value) (xs:List (Int×Int)):Prop:=Own 63 2 ac w B v xs
abbrev OwnI (w:World) (B:Nat) (v:Value) (xs:List Int):Prop:=Own 3 1 intC w B v xs
def RetS (w:World) (B:Nat) (xs:List (Int×Int)) (e:Ending) (w':World):Prop:=∃v,e= .returned v∧OwnS w' B v xs∧Below B w w'
def RetI (w:World) (B:Nat) (xs:List Int) (e:Ending) (w':World):Prop:=∃v,e= .returned v∧OwnI w' B v xs∧Below B w w'
def putJ (xs:List (Int×Int)) (p q:Int):List (Int×Int):=
 match xs.getLast? with
 | some x=>if x.1+x.2=p then xs.dropLast++ [(x.1,q - x.1)]else xs++ [(p,q - p)]
 | none=> [(p,q - p)]
theorem pS (p q:Int):putJ [] p q= [(p,q - p)]:=rfl
theorem jS (ys:List (Int×Int)) (a s p q:Int) (h:a+s=p):putJ (ys++ [(a,s)]) p q=ys++ [(a,q - a)]:=by
 simp [putJ,h]
theorem kk (ys:List (Int×Int)) (a s p q:Int) (h:a+s≠p):putJ (ys++ [(a,s)]) p q=ys++ [(a,s)]++ [(p,q - p)]:=by
 simp [putJ,h]
abbrev Lo (z:Int):Prop:= -4398046511104≤z∧z≤4398046511104
theorem rO (B:Nat) (v:Value) (xs:List (Int×Int)) (p q:Int) (w:World) (hB:B≤w.heap.size) (ho:OwnS w B v xs) (hlen:xs.length≤4000000000000)
  (hx:∀x∈xs,Lo x.1∧Lo x.2) (hp:Lo p) (hq:Lo q):
  Calls Tryz.prog 212 #[v,.int .i64 p,.int .i64 q] w (RetS w B (putJ xs p q)):=by
 obtain ⟨hp1,hp2⟩:=hp
 obtain ⟨hq1,hq2⟩:=hq
 rcases List.eq_nil_or_concat xs with rfl | ⟨ys,x,rfl⟩
 ·obtain ⟨A,cap,rfl, -⟩:=ho.form aE dM
  have HO:=zH ho
  clear ho
  simp only [List.length_nil]at*
  go_enter Tryz.func212,Tryz.ntmps212
  go_wp2_with fail
  go_quiet (fail)
  go_wp2_with (at_builtin;refine aH rfl (.tmp 43) (.tmp 49) 31 rfl ae aE rfl (by exact HO.out) [(p,q - p)] 1 _ rfl 1 1 rfl rfl _ rfl (by first | rfl | simp) oM (by simp [maxLen]) hB ?_;intro A1 cap1 w1 hown1 hgr1 hat1;have HO1:=zH hown1;have HG1:=zH hgr1;clear hown1 hgr1 hat1)
  go_ret
  exact ⟨_,rfl,HO1.out,HO.out.below (((oQ (Below.refl _ _) _).alloc hB _)) HG1.out (by simp;omega)⟩
 ·obtain ⟨a,s⟩:=x
  rw [List.concat_eq_append]at*
  have hxl:=hx (a,s) sM
  obtain ⟨⟨ha1,ha2⟩,hs1,hs2⟩:=hxl
  obtain ⟨g,cap,rfl,hBg,hgs⟩:=World.ownsRow.form ho sM
  have hlen':ys.length+1≤4000000000000:=by simpa using hlen
  have e0:w.cell? ⟨g,ys.length*2,none⟩=some (.int .i64 a):=by
   have:=World.ownsRow.cellAt ho (ys.length*2) sM
   rw [this]
   have:=eY aE dM (l:=ys++ [(a,s)]) (i:=ys.length) (j:=0) (x:=(a,s)) (u:= .int .i64 a) sM rfl
   simpa using this
  have e1:w.cell? ⟨g,ys.length*2+1,none⟩=some (.int .i64 s):=by
   have:=World.ownsRow.cellAt ho (ys.length*2+1) (by simp;omega)
   rw [this]
   have:=eY aE dM (l:=ys++ [(a,s)]) (i:=ys.length) (j:=1) (x:=(a,s)) (u:= .int .i64 s) sM rfl
   simpa using this
  have e2:w.frozen? ⟨g,ys.length*2+1,none⟩=false:=World.ownsRow.frozenAt ho _
  have hlen2:(ys++ [(a,s)]).length=ys.length+1:=by simp
  rw [hlen2]at ho⊢
  have HO:=zH ho
  clear ho hx hlen hlen2
  have ib1:(0:Int) < (ys.length:Int)+1:=by omega
  have ib2:(ys.length:Int) < (ys.length:Int)+1:=by omega
  have ib3:(0:Int)≤(ys.length:Int):=by omega
  by_cases hj:a+s=p
  ·rw [jS ys a s p q hj]
   have hj1:((a+s:Int)==p)=true:=by simpa using hj
   clear hj
   go_enter Tryz.func212,Tryz.ntmps212
   go_wp2_with fail
   go_quiet (fail)
   go_wp2
   go_ret
   refine ⟨_,rfl,?_,?_⟩
   ·have h0 : (w.drewN nq).ownsRow B 63 2 (.slice (some ⟨g, 0, none⟩) (ys.length + 1) cap) (ys.length + 1) ((ys ++ [(a, s)]).flatMap ac) := by
     have:=HO.out
     unfold OwnS Own at this
     rw [show (ys++ [(a,s)]).length=ys.length+1 by simp]at this
     exact this
    have h1:=(World.ownsRow.stored h0 (ys.length*2+1) (.int .i64 (q - a))).1
    have h2:(ys++ [(a,q - a)]).length=ys.length+1:=by simp
    have h3:(ys++ [(a,q - a)]).flatMap ac=((ys++ [(a,s)]).flatMap ac).set (ys.length*2+1) (.int .i64 (q - a)):=by
     have hl:=cU aE ys
     simp only [List.flatMap_append,List.flatMap_cons,List.flatMap_nil,ac,List.append_nil]
     rw [List.set_append_right _ _ oM,hl]
     simp
    show World.ownsRow _ B _ 2 _ (ys++ [(a,q - a)]).length _
    rw [h2,h3]
    exact h1
   ·exact (oQ (Below.refl _ _) _).setCell hBg _
  ·rw [kk ys a s p q hj]
   have hj1:((a+s:Int)==p)=false:=by simpa using hj
   clear hj
   go_enter Tryz.func212,Tryz.ntmps212
   go_wp2_with fail
   go_quiet (fail)
   go_wp2_with (at_builtin;refine aH rfl (.tmp 43) (.tmp 49) 31 rfl ae aE rfl (xs:=ys++ [(a,s)]) (by exact HO.out) [(p,q - p)] 1 _ rfl (ys.length+1+1) 1 sM rfl _ rfl (by first | rfl | simp) oM (by simp [maxLen];omega) (by simp;omega) ?_;intro A1 cap1 w1 hown1 hgr1 hat1;have HO1:=zH hown1;have HG1:=zH hgr1;clear hown1 hgr1 hat1)
   go_ret
   refine ⟨.slice A1 (ys.length+1+1) cap1,rfl,HO1.out,?_⟩
   exact AI (xs:=ys++ [(a,s)]) (n:=2) (f:=ac) (w:=w) HO.out ((oQ (Below.refl _ _) _).alloc hB _) HG1.out (by simp;omega)
end Go.Proofs.YtphpppjfogpohaaGreat
namespace Go.Proofs.YtphpppjfogpohaaGreat
open Go.RowKit Go.Shelf
theorem gr {α:Type} {d:α} {xs ys:List α} (hl:xs.length=ys.length) (h:∀i,i < xs.length→xs.getD i d=ys.getD i d):xs=ys:=by
 refine List.ext_getElem hl fun i h1 h2=> ?_
 have:=h i h1
 simpa [List.getElem?_eq_getElem h1,List.getElem?_eq_getElem h2]using this
theorem vZ (A A2:Option Addr) (cap cap2:Nat) (xs ys:List Int) (W:World) (hlen:xs.length≤9223372036854775807) (hlen2:ys.length≤9223372036854775807) (hl:IntsAt W A xs) (hl2:IntsAt W A2 ys):
  Calls Tryz.prog 16 #[.slice A xs.length cap,.slice A2 ys.length cap2] W fun e w'=>e= .returned (.bool (decide (xs=ys)))∧Ext W w':=by
 have HL:=zH hl
 have HL2:=zH hl2
 clear hl hl2
 by_cases hne:xs.length=ys.length
 rotate_left
 ·have h1:((xs.length:Int) !=(ys.length:Int))=true:=by rw [bne_iff_ne];omega
  have h2:decide (xs=ys)=false:=by simp;intro e;subst e;exact hne rfl
  have HR:=zH h2
  clear h2 hne
  go_enter Tryz.func16,Tryz.ntmps16
  go_wp2_with fail
  go_ret
  exact ⟨aD (by rw [HR.out]),AD _⟩
 have HN:=zH hne
 have h1:((xs.length:Int) !=(ys.length:Int))=false:=by rw [←HN.out];simp
 clear hne
 go_enter Tryz.func16,Tryz.ntmps16
 go_wp2_with fail
 go_loopw [5] (fun i wr=>∃k:Nat,k≤xs.length∧i= .int .i64 k∧Ext W wr∧Hid (∀i,i < k→xs.getD i 0=ys.getD i 0)) (fun i _=>xs.length - (intOf i).toNat)
 case atStart=>exact ⟨0,by omega,rfl,AD _,zH oM⟩
 case round=>
  obtain ⟨k,hk,rfl,hxr,hq⟩:=hrel
  by_cases hlt:k < xs.length
  rotate_left
  ·have HR:=zH (gr HN.out (fun i hi=>hq.out i oM))
   clear hq
   go_wp2_with fail
   go_ret
   exact ⟨aD (by simp [HR.out]),hxr⟩
  have hlt2:k < ys.length:=by have:=HN.out;omega
  obtain ⟨lb,off,rfl,hc⟩:=HL.out.get oM
  obtain ⟨lb2,off2,rfl,hc2⟩:=HL2.out.get oM
  have e1:=bD hc hlt
  have e3:=bD hc2 hlt2
  have c1:=hxr.cell e1
  have c3:=hxr.cell e3
  have HS:=zH (fun (h:xs.getD k 0=ys.getD k 0)=>(fun i (hi:i < k+1)=>by
   rcases Nat.lt_or_ge i k with h' | h'
   ·exact hq.out i h'
   ·obtain rfl:i=k:=by omega
    exact h:∀i,i < k+1→xs.getD i 0=ys.getD i 0))
  have HD:=zH (fun (h:xs.getD k 0≠ys.getD k 0)=>(fun e:xs=ys=>h (by rw [e]):xs≠ys))
  clear e1 e3 hc hc2 HL HL2 hq HN
  generalize xs.getD k 0=x at*
  generalize ys.getD k 0=y at*
  have ib1:(k:Int) < (xs.length:Int):=by omega
  have ib2:(k:Int) < (ys.length:Int):=by omega
  have ib3:(0:Int)≤(k:Int):=by omega
  by_cases he:x=y
  ·obtain rfl:=he
   go_wp2_with fail
   go_quiet (fail)
   go_wp2_with fail
   go_roundw
   case rel=>exact ⟨k+1,by omega,by go_num,hxr.drewN _,zH (HS.out (by first | rfl | trivial))⟩
   case measure=>simp [intOf];omega
  ·have HE:=zH (HD.out he)
   have hb:(x !=y)=true:=by rw [bne_iff_ne];exact he
   clear he HD HS
   go_wp2_with fail
   go_quiet (fail)
   go_wp2_with fail
   go_ret
   exact ⟨aD (decide_eq_false HE.out).symm,hxr.drewN _⟩
theorem gP (A:Option Addr) (cap:Nat) (xs:List Int) (W:World) (hlen:xs.length≤17592186044416) (hl:RowAt 1 u64C W A xs):
  Calls Tryz.prog 61 #[.slice A xs.length cap] W fun e w'=>∃A1 cap1,e= .returned (.slice A1 xs.length cap1)∧Own 61 1 u64C w' W.heap.size (.slice A1 xs.length cap1) xs∧Ext W w':=by
 have HL:=zH hl
 clear hl
 cases A with
 | none=>
  obtain rfl:=ff HL.out
  have he:=fun w=>Lib.run_eql_slice_nil (P:=Tryz.prog) w 30 61 none 0 cap 0 0 Tryz.underlying30
  simp only [Option.isNone_none]at he
  simp only [List.length_nil]
  clear HL
  go_enter Tryz.func61,Tryz.ntmps61
  go_wp2_with fail
  go_ret
  exact ⟨none,0,rfl,AM _ _ _ _ _,AD _⟩
 | some ad=>
  have he:=fun w=>Lib.run_eql_slice_nil (P:=Tryz.prog) w 30 61 (some ad) xs.length cap 0 0 Tryz.underlying30
  simp only [Option.isNone_some]at he
  go_enter Tryz.func61,Tryz.ntmps61
  go_wp2_with (at_builtin;refine an rfl (.tmp 5) (.tmp 6) 30 rfl sq dB rfl (by exact AO 61 1 u64C W W.heap.size (Nat.le_refl _)) xs ad cap xs.length xs.length sM rfl rfl (by exact AR HL.out ((AD _).alloc _)) oM (by simp [maxLen];try omega) sM ?_;intro A3 cap3 w3 hown3 hgr3 hat3;have HO3:=zH hown3;have hX3:Ext W w3:=AI (AO 61 1 u64C W W.heap.size (Nat.le_refl _)) ((Below.refl _ _).alloc (Nat.le_refl _) _) hgr3 sM;clear hown3 hgr3 hat3)
  go_ret
  exact ⟨A3,cap3,rfl,by simpa using HO3.out,hX3⟩
def fN (x:Bool×Int×Int):List Value:= [.bool x.1,.int .i64 x.2.1,.int .u64 x.2.2]
abbrev SlotsAt (w:World) (A:Option Addr) (xs:List (Bool×Int×Int)):Prop:=RowAt 3 fN w A xs
theorem en:Cells 3 fN:=⟨fun _=>rfl,fun x u h=>by simp [fN]at h;rcases h with rfl | rfl | rfl <;>rfl⟩
theorem dC {w:World} {b off:Nat} {xs:List (Bool×Int×Int)} (hc:∀i x,xs[i]?=some x→∀j v,(fN x)[j]?=some v→w.cell? ⟨b,off+i*3+j,none⟩=some v) {k:Nat} (hk:k < xs.length):
  w.cell? ⟨b,off+k*3,none⟩=some (.bool (xs.getD k (false,0,0)).1)∧w.cell? ⟨b,off+k*3+1,none⟩=some (.int .i64 (xs.getD k (false,0,0)).2.1)∧w.cell? ⟨b,off+k*3+2,none⟩=some (.int .u64 (xs.getD k (false,0,0)).2.2):=by
 have h0:=hc k xs[k] (by simp [hk]) 0 _ rfl
 have h1:=hc k xs[k] (by simp [hk]) 1 _ rfl
 have h2:=hc k xs[k] (by simp [hk]) 2 _ rfl
 exact ⟨by simpa [hk]using h0,by simpa [hk]using h1,by simpa [hk]using h2⟩
theorem mi:(Tryz.prog.info? 73).map (fun i=>(i.zero,i.size,i.bytes))=some (some (.agg #[.bool false,.int .i64 0,.int .u64 0]),3,24):=by kernel_rfl
theorem vd:Info Tryz.prog 32 73 3 24:=
 ⟨Tryz.underlying32,by obtain ⟨i0,hi,hz0,hz1,hz2⟩:=info_parts mi;exact ⟨i0,_,hi,hz0,hz1,hz2,rfl⟩,by decide⟩
theorem pT (A:Option Addr) (cap:Nat) (xs:List (Bool×Int×Int)) (W:World) (hlen:xs.length≤4000000000000) (hl:SlotsAt W A xs):
  Calls Tryz.prog 84 #[.slice A xs.length cap] W fun e w'=>∃A1 cap1,e= .returned (.slice A1 xs.length cap1)∧Own 73 3 fN w' W.heap.size (.slice A1 xs.length cap1) xs∧Ext W w':=by
 have HL:=zH hl
 clear hl
 cases A with
 | none=>
  obtain rfl:=ff HL.out
  have he:=fun w=>Lib.run_eql_slice_nil (P:=Tryz.prog) w 32 73 none 0 cap 0 0 Tryz.underlying32
  simp only [Option.isNone_none]at he
  simp only [List.length_nil]
  clear HL
  go_enter Tryz.func84,Tryz.ntmps84
  go_wp2_with fail
  go_ret
  exact ⟨none,0,rfl,AM _ _ _ _ _,AD _⟩
 | some ad=>
  have he:=fun w=>Lib.run_eql_slice_nil (P:=Tryz.prog) w 32 73 (some ad) xs.length cap 0 0 Tryz.underlying32
  simp only [Option.isNone_some]at he
  go_enter Tryz.func84,Tryz.ntmps84
  go_wp2_with (at_builtin;refine an rfl (.tmp 5) (.tmp 6) 32 rfl vd en rfl (by exact AO 73 3 fN W W.heap.size (Nat.le_refl _)) xs ad cap xs.length xs.length sM rfl rfl (by exact AR HL.out ((AD _).alloc _)) oM (by simp [maxLen];try omega) sM ?_;intro A3 cap3 w3 hown3 hgr3 hat3;have HO3:=zH hown3;have hX3:Ext W w3:=AI (AO 73 3 fN W W.heap.size (Nat.le_refl _)) ((Below.refl _ _).alloc (Nat.le_refl _) _) hgr3 sM;clear hown3 hgr3 hat3)
  go_ret
  exact ⟨A3,cap3,rfl,by simpa using HO3.out,hX3⟩
theorem jh (A:Option Addr) (cap:Nat) (xs:List (Int×Int)) (W:World) (hlen:xs.length≤4000000000000) (hl:SpansAt W A xs):
  Calls Tryz.prog 83 #[.slice A xs.length cap] W fun e w'=>∃A1 cap1,e= .returned (.slice A1 xs.length cap1)∧Own 63 2 ac w' W.heap.size (.slice A1 xs.length cap1) xs∧Ext W w':=by
 have HL:=zH hl
 clear hl
 cases A with
 | none=>
  obtain rfl:=ff HL.out
  have he:=fun w=>Lib.run_eql_slice_nil (P:=Tryz.prog) w 31 63 none 0 cap 0 0 Tryz.underlying31
  simp only [Option.isNone_none]at he
  simp only [List.length_nil]
  clear HL
  go_enter Tryz.func83,Tryz.ntmps83
  go_wp2_with fail
  go_ret
  exact ⟨none,0,rfl,AM _ _ _ _ _,AD _⟩
 | some ad=>
  have he:=fun w=>Lib.run_eql_slice_nil (P:=Tryz.prog) w 31 63 (some ad) xs.length cap 0 0 Tryz.underlying31
  simp only [Option.isNone_some]at he
  go_enter Tryz.func83,Tryz.ntmps83
  go_wp2_with (at_builtin;refine an rfl (.tmp 5) (.tmp 6) 31 rfl ae aE rfl (by exact AO 63 2 ac W W.heap.size (Nat.le_refl _)) xs ad cap xs.length xs.length sM rfl rfl (by exact AR HL.out ((AD _).alloc _)) oM (by simp [maxLen];try omega) sM ?_;intro A3 cap3 w3 hown3 hgr3 hat3;have HO3:=zH hown3;have hX3:Ext W w3:=AI (AO 63 2 ac W W.heap.size (Nat.le_refl _)) ((Below.refl _ _).alloc (Nat.le_refl _) _) hgr3 sM;clear hown3 hgr3 hat3)
  go_ret
  exact ⟨A3,cap3,rfl,by simpa using HO3.out,hX3⟩
theorem rP (A:Option Addr) (cap:Nat) (xs:List (Int)) (W:World) (hlen:xs.length≤4000000000000) (hl:IntsAt W A xs):
  Calls Tryz.prog 102 #[.slice A xs.length cap] W fun e w'=>∃A1 cap1,e= .returned (.slice A1 xs.length cap1)∧Own 3 1 intC w' W.heap.size (.slice A1 xs.length cap1) xs∧Ext W w':=by
 have HL:=zH hl
 clear hl
 cases A with
 | none=>
  obtain rfl:=ff HL.out
  have he:=fun w=>Lib.run_eql_slice_nil (P:=Tryz.prog) w 38 3 none 0 cap 0 0 Tryz.underlying38
  simp only [Option.isNone_none]at he
  simp only [List.length_nil]
  clear HL
  go_enter Tryz.func102,Tryz.ntmps102
  go_wp2_with fail
  go_ret
  exact ⟨none,0,rfl,AM _ _ _ _ _,AD _⟩
 | some ad=>
  have he:=fun w=>Lib.run_eql_slice_nil (P:=Tryz.prog) w 38 3 (some ad) xs.length cap 0 0 Tryz.underlying38
  simp only [Option.isNone_some]at he
  go_enter Tryz.func102,Tryz.ntmps102
  go_wp2_with (at_builtin;refine an rfl (.tmp 5) (.tmp 6) 38 rfl bj aO rfl (by exact AO 3 1 intC W W.heap.size (Nat.le_refl _)) xs ad cap xs.length xs.length sM rfl rfl (by exact AR HL.out ((AD _).alloc _)) oM (by simp [maxLen];try omega) sM ?_;intro A3 cap3 w3 hown3 hgr3 hat3;have HO3:=zH hown3;have hX3:Ext W w3:=AI (AO 3 1 intC W W.heap.size (Nat.le_refl _)) ((Below.refl _ _).alloc (Nat.le_refl _) _) hgr3 sM;clear hown3 hgr3 hat3)
  go_ret
  exact ⟨A3,cap3,rfl,by simpa using HO3.out,hX3⟩
end Go.Proofs.YtphpppjfogpohaaGreat
namespace Go.Proofs.YtphpppjfogpohaaGreat
open Go.RowKit
def Pers (W:World) (P:World→Prop):Prop:=∀w,Ext W w→P w
section
variable {W W1 w : World} {P : World → Prop}
theorem Pers.at (h:Pers W P) (hx:Ext W w):P w:=h w hx
theorem Pers.re (h:Pers W P) (hx:Ext W W1):Pers W1 P:=fun w k=>h w (hx.trans k)
theorem Pers.here (h:Pers W P):P W:=h W (AD W)
theorem af {α:Type} {n:Nat} {f:α→List Value} {A:Option Addr} {xs:List α} (h:RowAt n f W A xs):Pers W (fun w=>RowAt n f w A xs):=fun _ k=>h.ext k
theorem cK {α:Type} {e:TypeId} {n:Nat} {f:α→List Value} {B:Nat} {v:Value} {xs:List α} (h:Own e n f W B v xs):Pers W (fun w=>Own e n f w B v xs):=fun _ k=>h.ext k
theorem aP {b:Nat} {o:Obj} (h:W.heap[b]?=some o):Pers W (fun w=>w.heap[b]?=some o):=fun _ k=>(k.block (aA h)).trans h
theorem aG (w:World) (cs:Array Value) (t:TypeId) (b:Nat) (hb:w.heap.size=b):Pers (w.alloc (.cells cs t)) (fun w=>w.heap[b]?=some (.cells cs t (0,0))):=aP (aR w cs t b hb)
theorem iP (w:World) (cs:Array Value) (t:TypeId) (b:Nat) (hb:w.heap.size=b) (o2:Obj):Pers ((w.alloc (.cells cs t)).alloc o2) (fun w=>w.heap[b]?=some (.cells cs t (0,0))):=aP (b8 (aR w cs t b hb))
theorem Pers.cells {b:Nat} {cs:Array Value} {t:TypeId} (h:Pers W (fun w=>w.heap[b]?=some (.cells cs t (0,0)))):∀(u:ExtOf W) (i:Nat),u.1.cell? ⟨b,i,none⟩=cs[i]?:=fun u i=>by
 have:=h u.1 u.2
 simp [World.cell?,this]
theorem Pers.frees {b:Nat} {cs:Array Value} {t:TypeId} (h:Pers W (fun w=>w.heap[b]?=some (.cells cs t (0,0)))):∀(u:ExtOf W) (i:Nat),u.1.frozen? ⟨b,i,none⟩=false:=fun u i=>by
 have:=h u.1 u.2
 simp [World.frozen?,this]
theorem Pers.lt {b:Nat} {o:Obj} (h:Pers W (fun w=>w.heap[b]?=some o)):∀u:ExtOf W,b < u.1.heap.size:=fun u=>aA (h u.1 u.2)
theorem ExtOf.ext (u:ExtOf W):Ext W u.1:=u.2
abbrev AH := @ExtOf.ext
theorem aM {P:Program} {f:FuncId} {args:Array Value} {Q:Ending→World→Prop} (h:∀u:ExtOf W,Calls P f args u.1 Q):Calls P f args W Q:=h ⟨W,AD W⟩
theorem aT {G:World→Prop} (h:∀u:ExtOf W,G u.1):G W:=h ⟨W,AD W⟩
theorem aL {b i:Nat} {cs:Array Value} {t:TypeId} (h:W.heap[b]?=some (.cells cs t (0,0))) (v:Value):(W.setCell ⟨b,i,none⟩ v).heap[b]?=some (.cells (cs.setIfInBounds i v) t (0,0)):=heap_setCell_same W b i _ _ _ h
theorem bM {b c i:Nat} {o:Obj} (h:W.heap[b]?=some o) (v:Value) (hne:b≠c):(W.setCell ⟨c,i,none⟩ v).heap[b]?=some o:=(Below.heap_setCell W ⟨c,i,none⟩ v b hne).trans h
theorem arr5 {α:Type} {cs:Array α} (h:cs.size=5):∃a b c d e,cs= #[a,b,c,d,e]:=by
 obtain ⟨l⟩:=cs
 match l,h with
 | [a,b,c,d,e],_=>exact ⟨a,b,c,d,e,rfl⟩
theorem aB {b:Nat} {cs:Array Value} {t:TypeId} (h:W.heap[b]?=some (.cells cs t (0,0))):(∀i,W.cell? ⟨b,i,none⟩=cs[i]?)∧∀i,W.frozen? ⟨b,i,none⟩=false:=⟨fun i=>by simp [World.cell?,h],fun i=>by simp [World.frozen?,h]⟩
theorem aJ {p:Addr} {v:Value} (h:W.cell? p=some v):∀u:ExtOf W,u.1.cell? p=some v:=fun u=>u.2.cell h
end
structure Behind (P:Act→World→Prop) (a:Act) (w:World):Prop where
 mk::
 out:P a w
end Go.Proofs.YtphpppjfogpohaaGreat
namespace Go.Proofs.YtphpppjfogpohaaGreat
open Go.RowKit Go.Shelf
def Sep (vs:List Value):Prop:=∀(i j:Nat) (a b:Value) (g:Nat),vs[i]?=some a→vs[j]?=some b→i≠j→a.ownBlock=some g→b.ownBlock≠some g
section
variable {vs : List Value}
theorem Sep.ne (h:Sep vs) (i j:Nat) {a b:Value} (hi:vs[i]?=some a) (hj:vs[j]?=some b) (hij:i≠j):a.ownBlock=none∨a.ownBlock≠b.ownBlock:=by
 cases e:a.ownBlock with
 | none=>exact .inl rfl
 | some g=>exact .inr (fun e2=>h i j a b g hi hj hij e e2.symm)
theorem Sep.turn (h:Sep vs) (i:Nat) {m:Nat} {a x:Value} (hi:vs[i]?=some a) (hx:x.ownBlock=a.ownBlock∨x.ownBlock=none∨∃k,m≤k∧x.ownBlock=some k) (hm:∀b∈vs,∀g,b.ownBlock=some g→g < m):Sep (vs.set i x):=by
 have hlt:i < vs.length:=(List.getElem?_eq_some_iff.1 hi).1
 intro k j a' b' g hk hj hkj ha hb
 rw [List.getElem?_set]at hk hj
 by_cases e1:i=k
 ·subst e1
  rw [if_pos rfl,if_pos hlt]at hk
  rw [if_neg hkj]at hj
  injection hk with hk
  subst hk
  rcases hx with hx | hx | ⟨q,hq,hx⟩
  ·exact h i j a b' g hi hj hkj (hx ▸ ha) hb
  ·rw [hx]at ha;cases ha
  ·rw [hx]at ha
   injection ha with ha
   have:=hm b' (List.mem_of_getElem? hj) g hb
   omega
 ·rw [if_neg e1]at hk
  by_cases e2:i=j
  ·subst e2
   rw [if_pos rfl,if_pos hlt]at hj
   injection hj with hj
   subst hj
   rcases hx with hx | hx | ⟨q,hq,hx⟩
   ·exact h k i a' a g hk hi hkj ha (hx ▸ hb)
   ·rw [hx]at hb;cases hb
   ·rw [hx]at hb
    injection hb with hb
    have:=hm a' (List.mem_of_getElem? hk) g ha
    omega
  ·rw [if_neg e2]at hj
   exact h k j a' b' g hk hj hkj ha hb
end
theorem bJ {α:Type} {e:TypeId} {n:Nat} {f:α→List Value} {w:World} {B:Nat} {v:Value} {xs:List α} (h:Own e n f w B v xs) {g:Nat} (hg:v.ownBlock=some g):B≤g∧g < w.heap.size:=World.ownsRow.lt h g hg
theorem gu {α:Type} {e:TypeId} {n:Nat} {f:α→List Value} {w:World} {B g N cap:Nat} {xs:List α} (hf:Cells n f) (h0:0 < n) (h:Own e n f w B (.slice (some ⟨g,0,none⟩) N cap) xs) (hn:xs.length=N) (k j:Nat) (hk:k < xs.length) (v:Value) (hv:(f xs[k])[j]?=some v):w.cell? ⟨g,k*n+j,none⟩=some v:=by
 subst hn
 have hr:=(ag h hf h0).1
 obtain ⟨b,off,e1,hc⟩:=RowAt.get hr oM
 injection e1 with e1
 injection e1 with e1 e2 _
 subst e1 e2
 have:=hc k xs[k] (by simp [hk]) j v hv
 simpa using this
theorem eP {w:World} {B g cap n:Nat} {xs:List Int} (h:Own 3 1 intC w B (.slice (some ⟨g,0,none⟩) n cap) xs) (hn:xs.length=n) {k:Nat} (hk:k < n):w.cell? ⟨g,k,none⟩=some (.int .i64 (xs.getD k 0)):=by
 subst hn
 have:=gu aO dM h rfl k 0 hk (.int .i64 xs[k]) rfl
 simpa [List.getD_eq_getElem?_getD,hk]using this
def dv (z:Bool):List Value:= [.bool z]
theorem cn:Cells 1 dv:=⟨fun _=>rfl,fun x u h=>by simp [dv]at h;subst h;rfl⟩
theorem mj:(Tryz.prog.info? 4).map (fun i=>(i.zero,i.size,i.bytes))=some (some (.bool false),1,1):=by kernel_rfl
theorem pU:Info Tryz.prog 199 4 1 1:=
 ⟨Tryz.underlying199,by obtain ⟨i0,hi,hz0,hz1,hz2⟩:=info_parts mj;exact ⟨i0,_,hi,hz0,hz1,hz2,rfl⟩,by decide⟩
theorem pV:∀(xs:List Bool) (k:Nat) (z:Bool),(xs.flatMap dv).set k (.bool z)=(xs.set k z).flatMap dv
 | [],k,z=>by simp
 | x::xs,0,z=>by simp [dv]
 | x::xs,k+1,z=>by
  have h:=pV xs k z
  simp only [List.flatMap_cons,List.set_cons_succ]
  rw [←h]
  simp [dv]
theorem km {w:World} {B g cap n:Nat} {xs:List Bool} (h:Own 4 1 dv w B (.slice (some ⟨g,0,none⟩) n cap) xs) (hn:xs.length=n) (k:Nat) (z:Bool):
  Own 4 1 dv (w.setCell ⟨g,k,none⟩ (.bool z)) B (.slice (some ⟨g,0,none⟩) n cap) (xs.set k z):=by
 unfold Own at h⊢
 rw [hn]at h
 rw [List.length_set,hn,←pV]
 exact (World.ownsRow.stored h k (.bool z)).1
theorem cd {w:World} {B g cap n:Nat} {xs:List Bool} (h:Own 4 1 dv w B (.slice (some ⟨g,0,none⟩) n cap) xs) (hn:xs.length=n) {k:Nat} (hk:k < n):w.cell? ⟨g,k,none⟩=some (.bool (xs.getD k false)):=by
 subst hn
 have:=gu cn dM h rfl k 0 hk (.bool xs[k]) rfl
 simpa [List.getD_eq_getElem?_getD,hk]using this
theorem kn {α:Type} {e:TypeId} {n:Nat} {f:α→List Value} {w:World} {B:Nat} {A:Option Addr} {cap N:Nat} {xs:List α} (h:Own e n f w B (.slice A N cap) xs) (hf:Cells n f) (hn:xs.length=N) (m:Nat) (hm:m≤N):Own e n f w B (.slice A m cap) (xs.take m):=by
 subst hn
 have hl:(xs.take m).length=m:=by rw [List.length_take];omega
 have hfl:(xs.take m).flatMap f=(xs.flatMap f).take (m*n):=by
  have:∀(xs:List α) (m:Nat),(xs.take m).flatMap f=(xs.flatMap f).take (m*n):=by
   intro xs
   induction xs with
   | nil=>intro m;simp
   | cons x xs ih=>
    intro m
    cases m with
    | zero=>simp
    | succ m=>
     rw [List.take_succ_cons,List.flatMap_cons,List.flatMap_cons,ih,List.take_append,hf.len,Nat.succ_mul]
     rw [show m*n+n - n=m*n by omega,List.take_of_length_le (l:=f x) (by rw [hf.len];omega)]
  exact this xs m
 obtain ⟨h1,h2⟩:=h
 unfold Own
 rw [hl]
 refine ⟨by rw [hfl,List.length_take,h1];exact Nat.min_eq_left (Nat.mul_le_mul_right _ hm),?_⟩
 rcases h2 with ⟨hv,h0⟩ | ⟨g,cap',cur,hv,hb,hg,hc,hcm,hcs,ht⟩
 ·injection hv with ha hb hc
  exact .inl ⟨by rw [ha,hc,show m=0 by omega],by omega⟩
 ·injection hv with ha hb' hc'
  refine .inr ⟨g,cap',cur,by rw [ha,hc'],hb,hg,by omega,hcm,hcs,?_⟩
  rw [hfl,←ht,List.take_take,Nat.min_eq_left (Nat.mul_le_mul_right _ hm)]
theorem xq {α:Type} {e:TypeId} {n:Nat} {f:α→List Value} {w:World} {B:Nat} {A:Option Addr} {cap N:Nat} {xs:List α} (h:Own e n f w B (.slice A N cap) xs) (hn:xs.length=N):N≤cap∧cap≤maxLen:=by
 subst hn
 rcases h.2 with ⟨hv,h0⟩ | ⟨g,cap',cur,hv,_,_,hc,hcm,_⟩
 ·injection hv with _ _ hc
  subst hc
  exact ⟨by omega,by simp [maxLen]⟩
 ·injection hv with _ _ hc'
  subst hc'
  exact ⟨hc,hcm⟩
def BoxK (b:Nat) (cs:Array Value) (t:TypeId) (w:World):Prop:=w.heap[b]?=some (.cells cs t (0,0))
theorem BoxK.cells {b:Nat} {cs:Array Value} {t:TypeId} {W:World} (h:BoxK b cs t W) (u:KeptOf W (BoxK b cs t)) (i:Nat):u.1.cell? ⟨b,i,none⟩=cs[i]?:=(aB (u.of h)).1 i
theorem BoxK.ext {b:Nat} {cs:Array Value} {t:TypeId} {W W':World} (h:BoxK b cs t W) (hx:Ext W W'):BoxK b cs t W':=(hx.block (aA h)).trans h
abbrev AN := @BoxK.ext
end Go.Proofs.YtphpppjfogpohaaGreat
namespace Go.Proofs.YtphpppjfogpohaaGreat
open Go.RowKit
structure NodeD where
 kind:Int
 fA:Option Addr
 fcap:Nat
 fields:List (Int×Int)
 rA:Option Addr
 rcap:Nat
 raws:List Int
def dw (x:NodeD):List Value:= [.int .i64 x.kind,.slice x.fA x.fields.length x.fcap,.slice x.rA x.raws.length x.rcap]
instance :Inhabited NodeD:=⟨⟨0,none,0,[],none,0,[]⟩⟩
structure NodeAt (w:World) (x:NodeD):Prop where
 fields:SpansAt w x.fA x.fields
 raws:WordsAt w x.rA x.raws
structure NodesAt (w:World) (A:Option Addr) (ns:List NodeD):Prop where
 row:RowAt 3 dw w A ns
 each:∀x∈ns,NodeAt w x
structure NodeOk (x:NodeD):Prop where
 kind: -9223372036854775808≤x.kind∧x.kind≤9223372036854775807
 fl:x.fields.length≤8796093022208
 rl:x.raws.length≤17592186044416
 fn:x.fA=none→x.fcap=0
 rn:x.rA=none→x.rcap=0
 fc:x.fields.length≤x.fcap
 rc:x.raws.length≤x.rcap
 fv:∀v∈x.fields,(-9223372036854775808≤v.1∧v.1≤9223372036854775807)∧(-9223372036854775808≤v.2∧v.2≤9223372036854775807)
 rv:∀v∈x.raws,0≤v∧v < 18446744073709551616
structure GraphD where
 nA:Option Addr
 ncap:Nat
 ns:List NodeD
 rA:Option Addr
 rcap:Nat
 rs:List (Int×Int)
structure GraphAt (w:World) (G:GraphD):Prop where
 nodes:NodesAt w G.nA G.ns
 roots:SpansAt w G.rA G.rs
structure GraphOk (G:GraphD):Prop where
 nl:G.ns.length≤2513169434843
 rl:G.rs.length≤8796093022208
 nn:G.nA=none→G.ncap=0
 rn:G.rA=none→G.rcap=0
 nc:G.ns.length≤G.ncap
 rc:G.rs.length≤G.rcap
 each:∀x∈G.ns,NodeOk x
 rv:∀v∈G.rs,(-9223372036854775808≤v.1∧v.1≤9223372036854775807)∧(-9223372036854775808≤v.2∧v.2≤9223372036854775807)
theorem NodeAt.ext {w w':World} {x:NodeD} (h:NodeAt w x) (hx:Ext w w'):NodeAt w' x:=⟨h.fields.ext hx,h.raws.ext hx⟩
theorem NodesAt.ext {w w':World} {A:Option Addr} {ns:List NodeD} (h:NodesAt w A ns) (hx:Ext w w'):NodesAt w' A ns:=⟨h.row.ext hx,fun x hm=>(h.each x hm).ext hx⟩
theorem GraphAt.ext {w w':World} {G:GraphD} (h:GraphAt w G) (hx:Ext w w'):GraphAt w' G:=⟨h.nodes.ext hx,h.roots.ext hx⟩
theorem ah {w:World} {b off:Nat} {ns:List NodeD} (hc:∀i x,ns[i]?=some x→∀j v,(dw x)[j]?=some v→w.cell? ⟨b,off+i*3+j,none⟩=some v) {k:Nat} (hk:k < ns.length):
  w.cell? ⟨b,off+k*3,none⟩=some (.int .i64 (ns.getD k default).kind)∧w.cell? ⟨b,off+k*3+1,none⟩=some (.slice (ns.getD k default).fA (ns.getD k default).fields.length (ns.getD k default).fcap)∧
   w.cell? ⟨b,off+k*3+2,none⟩=some (.slice (ns.getD k default).rA (ns.getD k default).raws.length (ns.getD k default).rcap):=by
 have hg:ns.getD k default=ns[k]:=by simp [hk]
 have h0:=hc k ns[k] (by simp [hk]) 0 _ rfl
 have h1:=hc k ns[k] (by simp [hk]) 1 _ rfl
 have h2:=hc k ns[k] (by simp [hk]) 2 _ rfl
 rw [hg]
 exact ⟨by simpa using h0,by simpa using h1,by simpa using h2⟩
def dx (x:NodeD):Int:=wrap64 (wrap64 (1+x.fields.length)+x.raws.length)
theorem ko (x:NodeD) (W:World):Calls Tryz.prog 35 #[.agg #[.int .i64 x.kind,.slice x.fA x.fields.length x.fcap,.slice x.rA x.raws.length x.rcap]] W fun e w'=>e= .returned (.int .i64 (dx x))∧Ext W w':=by
 go_enter Tryz.func35,Tryz.ntmps35
 go_wp2_with fail
 go_ret
 exact ⟨aZ rfl,(AD _).alloc _⟩
theorem ji (x:NodeD) (W:World):Calls Tryz.prog 50 #[.agg #[.int .i64 x.kind,.slice x.fA x.fields.length x.fcap,.slice x.rA x.raws.length x.rcap]] W fun e w'=>e= .returned (.int .i64 (dx x))∧Ext W w':=by
 go_enter Tryz.func50,Tryz.ntmps50
 go_wp2_with fail
 go_ret
 exact ⟨aZ rfl,(AD _).alloc _⟩
theorem oS (x:NodeD) (W:World):Calls Tryz.prog 159 #[.agg #[.int .i64 x.kind,.slice x.fA x.fields.length x.fcap,.slice x.rA x.raws.length x.rcap]] W fun e w'=>e= .returned (.int .i64 x.fields.length)∧Ext W w':=by
 go_enter Tryz.func159,Tryz.ntmps159
 go_wp2_with fail
 go_ret
 exact ⟨rfl,(AD _).alloc _⟩
end Go.Proofs.YtphpppjfogpohaaGreat
namespace Go.Proofs.YtphpppjfogpohaaGreat
open Go.RowKit Go.Shelf
def addS (f:NodeD→Int) (ns:List NodeD) (l:List Int):Int:=l.foldl (fun (n i:Int)=>if 0≤i∧i < ns.length then wrap64 (n+f (ns.getD i.toNat default))else n) 0
theorem jT {f:NodeD→Int} {ns:List NodeD} {l:List Int} {k:Nat} (hk:k < l.length):
  addS f ns (l.take (k+1))=(if 0≤l.getD k 0∧l.getD k 0 < ns.length then wrap64 (addS f ns (l.take k)+f (ns.getD (l.getD k 0).toNat default))else addS f ns (l.take k)):=by
 rw [List.take_add_one,List.getElem?_eq_getElem hk]
 unfold addS
 rw [Option.toList_some,List.foldl_append]
 simp [hk]
def zD (g:Nat) (f:NodeD→Int):Prop:=∀W (x:NodeD),Calls Tryz.prog g #[.agg #[.int .i64 x.kind,.slice x.fA x.fields.length x.fcap,.slice x.rA x.raws.length x.rcap]] W fun e w'=>e= .returned (.int .i64 (f x))∧Ext W w'
theorem ss (f:NodeD→Int) (g:Nat) (eg:∀args w,(callFunc g args).run Tryz.prog w= .ok (.enter g args) w) (hf:zD g f) (G:GraphD) (A:Option Addr) (cap:Nat) (l:List Int) (V:World) (hG:GraphAt V G) (hl:IntsAt V A l) (hlen:l.length≤9223372036854775807) (hn:G.ns.length≤9223372036854775807):
  Calls Tryz.prog 82 #[.agg #[.slice G.nA G.ns.length G.ncap,.slice G.rA G.rs.length G.rcap],.slice A l.length cap,.func (.func g) #[] #[]] V fun e w'=>e= .returned (.int .i64 (addS f G.ns l))∧Ext V w':=by
 have k0:=fun w'=>aa V #[.slice G.nA G.ns.length G.ncap,.slice G.rA G.rs.length G.rcap] 27 0 (.slice G.nA G.ns.length G.ncap) rfl w'
 have HL:=zH hl
 have HG:=zH hG
 have HF:=zH hf
 have hV:Ext V (V.alloc (.cells #[.slice G.nA G.ns.length G.ncap,.slice G.rA G.rs.length G.rcap] 27)):=(AD V).alloc _
 have HV:=zH hV
 clear hl hG hf hV
 go_enter Tryz.func82,Tryz.ntmps82
 go_wp2_with fail
 go_loopw [7,9,12] (fun n _ i wr=>∃k:Nat,k≤l.length∧i= .int .i64 k∧n= .int .i64 (addS f G.ns (l.take k))∧Ext (V.alloc (.cells #[.slice G.nA G.ns.length G.ncap,.slice G.rA G.rs.length G.rcap] 27)) wr) (fun _ _ i _=>l.length - (intOf i).toNat)
 case atStart=>exact ⟨0,by omega,rfl,rfl,AD _⟩
 case round=>
  obtain ⟨k,hk,rfl,rfl,hxr⟩:=hrel
  by_cases hlt:k < l.length
  rotate_left
  ·go_wp2_with fail
   go_ret
   exact ⟨aZ (by rw [List.take_of_length_le oM]),HV.out.trans hxr⟩
  obtain ⟨lb,off,rfl,hc⟩:=HL.out.get oM
  have c1:=hxr.cell (HV.out.cell (bD hc hlt))
  have b0:=k0 _ hxr
  have HT:=zH (jT (f:=f) (ns:=G.ns) hlt)
  have ib1:(k:Int) < (l.length:Int):=by omega
  clear hc HL
  generalize l.getD k 0=i at*
  by_cases hi:0≤i∧i < G.ns.length
  ·obtain ⟨hi1,hi2⟩:=hi
   obtain ⟨j,rfl⟩:=Int.eq_ofNat_of_zero_le hi1
   have hj:j < G.ns.length:=by omega
   obtain ⟨nb,noff,hA,hcn⟩:=HG.out.nodes.row.get oM
   obtain ⟨d0,d1,d2⟩:=ah hcn hj
   have e0:=hxr.cell (HV.out.cell d0)
   have e1:=hxr.cell (HV.out.cell d1)
   have e2:=hxr.cell (HV.out.cell d2)
   have HE:=zH (HT.out.trans (if_pos ⟨hi1,hi2⟩))
   rw [Int.toNat_natCast]at HE
   have hcall:=zH (HF.out wr (G.ns.getD j default))
   rw [hA]at b0
   clear hcn d0 d1 d2 HT HF hA k0
   generalize G.ns.getD j default=x at*
   go_wp2_with (go_at_fn g;refine hcall.out.mono ?_;rintro e w1 ⟨rfl,hx1⟩;replace hxr:=hxr.trans hx1)
   go_roundw
   case rel=>exact ⟨k+1,by omega,by go_num,by rw [HE.out],hxr⟩
   case measure=>simp [intOf];omega
  ·have HE:=zH (HT.out.trans (if_neg hi))
   have hcase:i < 0∨(0≤i∧¬i < G.ns.length):=by omega
   clear hi HT HF
   rcases hcase with hi | ⟨hi,hi2⟩
   all_goals
    go_wp2_with fail
    go_roundw
    case rel=>exact ⟨k+1,by omega,by go_num,by rw [HE.out],hxr⟩
    case measure=>simp [intOf];omega
theorem rQ (G:GraphD) (A:Option Addr) (cap:Nat) (l:List Int) (V:World) (hG:GraphAt V G) (hl:IntsAt V A l) (hlen:l.length≤9223372036854775807) (hn:G.ns.length≤9223372036854775807):
  Calls Tryz.prog 36 #[.agg #[.slice G.nA G.ns.length G.ncap,.slice G.rA G.rs.length G.rcap],.slice A l.length cap] V fun e w'=>e= .returned (.int .i64 (addS dx G.ns l))∧Ext V w':=by
 have HL:=zH hl
 have HG:=zH hG
 clear hl hG
 go_enter Tryz.func36,Tryz.ntmps36
 go_wp2_with fail
 refine (ss dx 35 (enters_of Tryz.func35 kR rfl) (fun W x=>ko x W) G A cap l _ (HG.out.ext ((AD V).alloc _)) (HL.out.ext ((AD V).alloc _)) hlen hn).mono ?_
 rintro e w1 ⟨rfl,hx⟩
 go_wp2_with fail
 go_ret
 exact ⟨rfl,((AD V).alloc _).trans hx⟩
theorem pW (G:GraphD) (A:Option Addr) (cap:Nat) (l:List Int) (V:World) (hG:GraphAt V G) (hl:IntsAt V A l) (hlen:l.length≤9223372036854775807) (hn:G.ns.length≤9223372036854775807):
  Calls Tryz.prog 124 #[.agg #[.slice G.nA G.ns.length G.ncap,.slice G.rA G.rs.length G.rcap],.slice A l.length cap] V fun e w'=>e= .returned (.int .i64 (addS (fun x=>x.fields.length) G.ns l))∧Ext V w':=by
 have HL:=zH hl
 have HG:=zH hG
 clear hl hG
 go_enter Tryz.func124,Tryz.ntmps124
 go_wp2_with fail
 refine (ss (fun x=>x.fields.length) 159 (enters_of Tryz.func159 kR rfl) (fun W x=>oS x W) G A cap l _ (HG.out.ext ((AD V).alloc _)) (HL.out.ext ((AD V).alloc _)) hlen hn).mono ?_
 rintro e w1 ⟨rfl,hx⟩
 go_wp2_with fail
 go_ret
 exact ⟨rfl,((AD V).alloc _).trans hx⟩
theorem oT (G:GraphD) (A:Option Addr) (cap:Nat) (l:List Int) (V:World) (hG:GraphAt V G) (hl:IntsAt V A l) (hlen:l.length≤9223372036854775807) (hn:G.ns.length≤9223372036854775807):
  Calls Tryz.prog 128 #[.agg #[.slice G.nA G.ns.length G.ncap,.slice G.rA G.rs.length G.rcap],.slice A l.length cap] V fun e w'=>e= .returned (.tuple #[.int .i64 (addS dx G.ns l),.int .i64 (addS (fun x=>x.fields.length) G.ns l)])∧Ext V w':=by
 have k0:=fun w'=>aa V #[.slice G.nA G.ns.length G.ncap,.slice G.rA G.rs.length G.rcap] 27 0 (.slice G.nA G.ns.length G.ncap) rfl w'
 have HL:=zH hl
 have HG:=zH hG
 have hV:Ext V (V.alloc (.cells #[.slice G.nA G.ns.length G.ncap,.slice G.rA G.rs.length G.rcap] 27)):=(AD V).alloc _
 have HV:=zH hV
 clear hl hG hV
 go_enter Tryz.func128,Tryz.ntmps128
 go_wp2_with fail
 go_loopw [6,7,8] (fun m n i wr=>∃k:Nat,k≤l.length∧i= .int .i64 k∧m= .int .i64 (addS dx G.ns (l.take k))∧n= .int .i64 (addS (fun x=>x.fields.length) G.ns (l.take k))∧Ext (V.alloc (.cells #[.slice G.nA G.ns.length G.ncap,.slice G.rA G.rs.length G.rcap] 27)) wr) (fun _ _ i _=>l.length - (intOf i).toNat)
 case atStart=>exact ⟨0,by omega,rfl,rfl,rfl,AD _⟩
 case round=>
  obtain ⟨k,hk,rfl,rfl,rfl,hxr⟩:=hrel
  by_cases hlt:k < l.length
  rotate_left
  ·go_wp2_with fail
   go_ret2
   exact ⟨by rw [List.take_of_length_le oM];rfl,HV.out.trans hxr⟩
  obtain ⟨lb,off,rfl,hc⟩:=HL.out.get oM
  have c1:=hxr.cell (HV.out.cell (bD hc hlt))
  have b0:=k0 _ hxr
  have HX:=zH hxr
  have HT:=zH (jT (f:=dx) (ns:=G.ns) hlt)
  have HT2:=zH (jT (f:=fun x=>x.fields.length) (ns:=G.ns) hlt)
  have ib1:(k:Int) < (l.length:Int):=by omega
  have ib0:(0:Int)≤(k:Int):=by omega
  have hs0:Ext wr wr:=AD wr
  clear hc HL k0 hxr
  generalize l.getD k 0=i at*
  have l1:∀u:ExtOf wr,u.1.cell? ⟨lb,off+k,none⟩=some (.int .i64 i):=fun u=>u.2.cell c1
  by_cases hi:0≤i∧i < G.ns.length
  ·obtain ⟨hi1,hi2⟩:=hi
   obtain ⟨j,rfl⟩:=Int.eq_ofNat_of_zero_le hi1
   have hj:j < G.ns.length:=by omega
   obtain ⟨nb,noff,hA,hcn⟩:=HG.out.nodes.row.get oM
   obtain ⟨d0,d1,d2⟩:=ah hcn hj
   have e0:=HX.out.cell (HV.out.cell d0)
   have e1:=HX.out.cell (HV.out.cell d1)
   have e2:=HX.out.cell (HV.out.cell d2)
   have HE:=zH (HT.out.trans (if_pos ⟨hi1,hi2⟩))
   have HE2:=zH (HT2.out.trans (if_pos ⟨hi1,hi2⟩))
   rw [Int.toNat_natCast]at HE HE2
   rw [hA]at b0
   clear hcn d0 d1 d2 HT HT2 hA
   generalize G.ns.getD j default=x at*
   have l0:∀u:ExtOf wr,u.1.cell? ⟨V.heap.size,0,none⟩=some (.slice (some ⟨nb,noff,none⟩) G.ns.length G.ncap):=fun u=>u.2.cell b0
   have l2:∀u:ExtOf wr,u.1.cell? ⟨nb,noff+j*3,none⟩=some (.int .i64 x.kind):=fun u=>u.2.cell e0
   have l3:∀u:ExtOf wr,u.1.cell? ⟨nb,noff+j*3+1,none⟩=some (.slice x.fA x.fields.length x.fcap):=fun u=>u.2.cell e1
   have l4:∀u:ExtOf wr,u.1.cell? ⟨nb,noff+j*3+2,none⟩=some (.slice x.rA x.raws.length x.rcap):=fun u=>u.2.cell e2
   go_wp2_with fail
   (refine aC (W:=wr) kR kR aS ?_;(repeat (go_big_quiet_step (fail)));refine wpQuiet_nil ?_;intro w1 hx)
   go_wp2_with fail
   have hs1:=hx
   (refine aC (W:=wr) kR kR aS ?_;(repeat (go_big_quiet_step (first | (go_at_call 50;with_reducible exact AE (ji x _)))));refine wpQuiet_nil ?_;intro w1 hx)
   have hs2:=hx
   go_wp2_with fail
   (refine aC (W:=wr) kR kR aS ?_;(repeat (go_big_quiet_step (fail)));refine wpQuiet_nil ?_;intro w1 hx)
   go_wp2_with fail
   go_roundw
   case rel=>exact ⟨k+1,by omega,by go_num,by rw [HE.out],by rw [HE2.out],HX.out.trans hx⟩
   case measure=>simp [intOf];omega
  ·have HE:=zH (HT.out.trans (if_neg hi))
   have HE2:=zH (HT2.out.trans (if_neg hi))
   have hcase:i < 0∨(0≤i∧¬i < G.ns.length):=by omega
   have l0:∀u:ExtOf wr,u.1.cell? ⟨V.heap.size,0,none⟩=some (.slice G.nA G.ns.length G.ncap):=fun u=>u.2.cell b0
   clear hi HT HT2
   rcases hcase with hi | ⟨hi,hi2⟩
   ·have hd:decide ((0:Int)≤i)=false:=by simp;omega
    go_wp2_with fail
    (refine aC (W:=wr) kR kR aS ?_;(repeat (go_big_quiet_step (fail)));refine wpQuiet_nil ?_;intro w1 hx)
    go_wp2_with fail
    go_roundw
    case rel=>exact ⟨k+1,by omega,by go_num,by rw [HE.out],by rw [HE2.out],HX.out.trans hx⟩
    case measure=>simp [intOf];omega
   ·have hd:decide ((0:Int)≤i)=true:=by simp;omega
    have hd2:decide (i < (G.ns.length:Int))=false:=by simp;omega
    go_wp2_with fail
    (refine aC (W:=wr) kR kR aS ?_;(repeat (go_big_quiet_step (fail)));refine wpQuiet_nil ?_;intro w1 hx)
    go_wp2_with fail
    go_roundw
    case rel=>exact ⟨k+1,by omega,by go_num,by rw [HE.out],by rw [HE2.out],HX.out.trans hx⟩
    case measure=>simp [intOf];omega
def bulk (ns:List NodeD):Int:=ns.foldl (fun n x=>n+(min x.fields.length 5000+min x.raws.length 5000:Nat)) 0
end Go.Proofs.YtphpppjfogpohaaGreat
namespace Go.Proofs.YtphpppjfogpohaaGreat
open Go.RowKit
theorem ve {V w:World} (h:Ext V w) {X:Nat} (hX:V.heap.size≤X) (u0 u1 u2 u3 u4:Value):Ext V (((((w.setCell ⟨X,0,none⟩ u0).setCell ⟨X,1,none⟩ u1).setCell ⟨X,2,none⟩ u2).setCell ⟨X,3,none⟩ u3).setCell ⟨X,4,none⟩ u4):=
 ((((h.setCell hX _).setCell hX _).setCell hX _).setCell hX _).setCell hX _
end Go.Proofs.YtphpppjfogpohaaGreat
