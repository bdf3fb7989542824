/- Merged by program (merge.py) out of: Range, RangeK. -/
import Derived.RangeFuncNested
import Derived.RangeFuncBound
import Derived.RangeFuncCalls
import Derived.RangeFuncLeaves
import Derived.OwnWalkIn
import Derived.Test.YtemmjmplhknemaaMp3
import Derived.Test.YtemmjmplhknemaaMp5
set_option linter.unusedSimpArgs false
set_option linter.unusedVariables false
set_option maxRecDepth 100000
set_option maxHeartbeats 16000000
namespace Go.Proofs.Ytemmjmplhknemaa
open Go.RowKit
def Led (W:World) (Bout b:Nat):Prop:=∃n c,W.cell? ⟨Bout,0,none⟩=some (.slice (some ⟨b,0,none⟩) n c)
structure Ab (n1 Bout:Nat) (A B:World):Prop where
 below:Below n1 A B
 kept:∀k o,A.heap[k]?=some o→(o.isCells=false∨Led A Bout k)→B.heap[k]?=some o
structure Kp (nV n0 Bout:Nat) (A B:World):Prop where
 below:Below nV A B
 cells:∀k o,n0≤k→A.heap[k]?=some o→o.isCells=true→¬Led A Bout k→B.heap[k]?=some o
 led:∀k,Led B Bout k→Led A Bout k∨(A.heap.size≤k∧k < B.heap.size)
structure AbI (n0 Bout:Nat) (A B:World):Prop where
 below:Below n0 A B
 kept:∀k o,A.heap[k]?=some o→o.isCells=true→Led A Bout k→B.heap[k]?=some o
theorem lt_of_heap {W:World} {k:Nat} {o:Obj} (h:W.heap[k]?=some o):k < W.heap.size:=(Array.getElem?_eq_some_iff.1 h).1
theorem Kp.trans {nV n0 Bout:Nat} {A B C:World} (h:Kp nV n0 Bout A B) (k:Kp nV n0 Bout B C):Kp nV n0 Bout A C where
 below:=h.below.trans k.below
 cells i o hi ho hc hl:=k.cells i o hi (h.cells i o hi ho hc hl) hc fun hb=>by
  rcases h.led i hb with h1 | h1
  ·exact hl h1
  ·have:=lt_of_heap ho;omega
 led i hi:=by
  have hs:=k.below.size
  rcases k.led i hi with h1 | h1
  ·exact (h.led i h1).imp id (fun h2=>by omega)
  ·have:=h.below.size;exact .inr (by omega)
theorem cell_noncells {W:World} {k:Nat} {o:Obj} (ho:W.heap[k]?=some o) (hc:o.isCells=false) (i:Nat):W.cell? ⟨k,i,none⟩=none:=by
 unfold World.cell?
 rw [ho]
 cases o <;>first | rfl | (cases hc)
theorem led_putObj {W:World} {Bout l b:Nat} {o o':Obj} (ho:W.heap[l]?=some o) (hc:o.isCells=false) (hc':o'.isCells=false):Led (W.putObj l o') Bout b↔Led W Bout b:=by
 have hlt:=lt_of_heap ho
 have h1:(W.putObj l o').cell? ⟨Bout,0,none⟩=W.cell? ⟨Bout,0,none⟩:=by
  by_cases e:Bout=l
  ·subst e
   rw [cell_noncells ho hc,cell_noncells (World.putObj_heap_same hlt) hc']
  ·exact World.cell?_of_block (World.putObj_heap_other e)
 unfold Led
 rw [h1]
theorem Kp.putObj {nV n0 Bout:Nat} {W:World} {l:Nat} {o o':Obj} (hV:nV≤l) (ho:W.heap[l]?=some o) (hc:o.isCells=false) (hc':o'.isCells=false):Kp nV n0 Bout W (W.putObj l o') where
 below:=(Below.refl nV W).grown (grownBy_putObj' W l o') (by have:=lt_of_heap ho;omega) (fun k e=>by cases e;omega)
 cells i ob _ hob hcl _:=by
  have e:i≠l:=by intro e;subst e;rw [ho]at hob;cases hob;rw [hc]at hcl;cases hcl
  rw [World.putObj_heap_other e];exact hob
 led i hi:= .inl ((led_putObj ho hc hc').1 hi)
theorem AbI.putObj {n0 Bout:Nat} {W:World} {l:Nat} {o o':Obj} (hn:n0≤l) (ho:W.heap[l]?=some o) (hc:o.isCells=false):AbI n0 Bout W (W.putObj l o') where
 below:=(Below.refl n0 W).grown (grownBy_putObj' W l o') (by have:=lt_of_heap ho;omega) (fun k e=>by cases e;omega)
 kept i ob hob hcl _:=by
  have e:i≠l:=by intro e;subst e;rw [ho]at hob;cases hob;rw [hc]at hcl;cases hcl
  rw [World.putObj_heap_other e];exact hob
theorem AbI.alloc {n0 Bout:Nat} {W:World} (hn:n0≤W.heap.size) (o:Obj):AbI n0 Bout W (W.alloc o) where
 below:=(Below.refl n0 W).alloc hn o
 kept i ob hob _ _:=(Below.heap_alloc W o i (lt_of_heap hob)).trans hob
theorem Ab.I {n0 n1 Bout:Nat} {A B:World} (h:Ab n1 Bout A B) (hn:n0≤n1):AbI n0 Bout A B:=⟨h.below.mono hn,fun k o ho _ hl=>h.kept k o ho (.inr hl)⟩
def IterStops {α:Type} (P:Program) (g:Nat) (lb:Array Value) (encs:α→Array Value) (nV Bout:Nat) (S Sp Gd:List α→Prop) (w:World):Prop:=
 ∀(l:Nat) (J Jx:List α→World→Prop) (W:World),Below w.heap.size w W→(∀s A B,J s A→Ab W.heap.size Bout A B→J s B)→(∀s A B,Jx s A→Ab W.heap.size Bout A B→Jx s B)→
  (∀pre x W1,J pre W1→Gd (pre++ [x])→YieldAt Fence.wide 3 P l (encs x) W1 fun e W'=>
   (e= .returned (.bool true)∧J (pre++ [x]) W'∧Kp nV w.heap.size Bout W1 W')∨(e= .returned (.bool false)∧Jx (pre++ [x]) W'))→
  J [] W→
  CallsIn Fence.wide 4 P g (#[.func (.yield l) #[] #[]]++lb) W fun e W'=>(∃v,e= .returned v)∧((∃xs,S xs∧J xs W')∨(∃pre,Sp pre∧Jx pre W'))
theorem wpIn_range {α:Type} {P:Program} {g:Operand} {ps:Array Tmp} {assign body:Code} {Q:Exit→Act→World→Prop} {a:Act} {w:World}
  {gf:Nat} {lb:Array Value} (hg:a.eval g= .func (.func gf) #[] lb) (eg:∀args w,(callFunc gf args).run P w= .ok (.enter gf args) w)
  {encs:α→Array Value} {nV Bout:Nat} {S Sp Gd:List α→Prop} (hseq:IterStops P gf lb encs nV Bout S Sp Gd w) (hV:nV≤w.heap.size) (hps:∀x,(encs x).size=ps.size)
  (I:List α→World→Prop) (Ix:Code→List α→World→Prop) (hI:∀s A B,I s A→AbI w.heap.size Bout A B→I s B) (hIx:∀c s A B,Ix c s A→AbI w.heap.size Bout A B→Ix c s B)
  (h0:I [] w) (Ax:List α→α→Act→World→Prop) (hAx:∀(pre:List α) (x:α) (a':Act) (A B:World),Ax pre x a' A→Below w.heap.size A B→(∀(k:Nat) (o:Obj),A.heap[k]?=some o→o.isCells=true→B.heap[k]?=some o)→Ax pre x a' B)
  (hassign:∀(l:Nat) (pre:List α) (x:α) (W:World) (K:Act→World→Prop),I pre W→(∀a' W',Ax pre x a' W'→KeepsFrom w.heap.size W W'→Kp nV w.heap.size Bout W W'→K a' W')→
   assign.wpIn (Fence.wide.inRound l) 3 P (Exit.then K (fun _ _ _=>False)) {tmps:=(ps.zip (encs x)).foldl (fun t (p,v)=>t.setIfInBounds p v) a.tmps,defers:= []} W)
  (hbody:∀(l:Nat) (pre:List α) (x:α) (a':Act) (W:World),Ax pre x a' W→Gd (pre++ [x])→body.wpIn (Fence.wide.inRound l) 3 P (ownPostG w.heap.size (Kp nV w.heap.size Bout) I Ix (pre++ [x]) W) a' W)
  (hdone:∀(D:Nat) (xs:List α) (W:World),w.heap.size≤D→S xs→I xs W→W.heap[D]?=some (.deferred (some []))→Q .normal {a with defers:= {target:= .collected D,args:= #[]}::a.defers} W)
  (hstop:∀(D:Nat) (c:Code) (pre:List α) (W:World),w.heap.size≤D→Sp pre→Ix c pre W→W.heap[D]?=some (.deferred (some []))→c.wpIn Fence.wide 5 P Q {a with defers:= {target:= .collected D,args:= #[]}::a.defers} W):
  (Code.rangeFunc g ps assign body).wpIn Fence.wide 5 P Q a w:=by
 refine wpIn_rangeFunc fun fn _=> ?_
 let rec':LoopState→Option Code→Obj:=fun st pe=> .loop {state:=st,pending:=pe,fn,tmps:=a.tmps,params:=ps,assign,body,defers:=w.heap.size}
 let D:=w.heap.size
 let l:=w.heap.size+1
 obtain ⟨W1,hW1⟩:∃W1,(w.alloc (.deferred (some []))).alloc (rec' .ready none)=W1:=⟨_,rfl⟩
 have hs1:W1.heap.size=w.heap.size+2:=by rw [←hW1];simp
 have hL1:W1.heap[l]?=some (rec' .ready none):=by
  rw [←hW1]
  have:=World.alloc_heap_new (w.alloc (.deferred (some []))) (rec' .ready none)
  rwa [World.size_alloc]at this
 have hD1:W1.heap[D]?=some (.deferred (some [])):=by
  rw [←hW1]
  exact (Below.heap_alloc _ _ _ (by simp [D])).trans (World.alloc_heap_new w _)
 have hI1:I [] W1:=by
  rw [←hW1]
  exact hI _ _ _ (hI _ _ _ h0 (AbI.alloc (Nat.le_refl _) _)) (AbI.alloc (by simp) _)
 have hb1:Below w.heap.size w W1:=by
  rw [←hW1]
  exact ((Below.refl _ w).alloc (Nat.le_refl _) _).alloc (by simp) _
 refine ⟨l,[{target:= .collected D,args:= #[]}],W1,{target:= .fn (.func gf) lb,args:= #[.func (.yield l) #[] #[]]},W1,gf,#[.func (.yield l) #[] #[]]++lb,W1,
  (by rw [←hW1];exact run_enterLoop_outer _ _ _ _ _),(by simp only [resolve,hg];simp [go_sem]),(fun f' _=>trivial),(by simp [invoke,go_sem,eg]),(fun h=>by simp [Fence.wide]at h),?_⟩
 refine (hseq l (fun pre W=>I pre W∧W.heap[l]?=some (rec' .ready none)∧W.heap[D]?=some (.deferred (some [])))
  (fun pre W=>∃c,Ix c pre W∧W.heap[l]?=some (rec' .done (some c))∧W.heap[D]?=some (.deferred (some []))) W1 hb1
  (fun s A B h hab=>⟨hI _ _ _ h.1 (hab.I (by omega)),hab.kept _ _ h.2.1 (.inl rfl),hab.kept _ _ h.2.2 (.inl rfl)⟩)
  (fun s A B h hab=>by
   obtain ⟨c,h1,h2,h3⟩:=h
   exact ⟨c,hIx _ _ _ _ h1 (hab.I (by omega)),hab.kept _ _ h2 (.inl rfl),hab.kept _ _ h3 (.inl rfl)⟩)
  ?_ ⟨hI1,hL1,hD1⟩).mono ?_
 ·
  rintro pre x W ⟨hi,hl,hd⟩ hlen
  have hne:D≠l:=by simp [D,l]
  refine ⟨fn,_,assign,body,run_yield (P:=P) (args:=encs x) hl (hps x),roundIn_of_wpIn trivial (hassign _ pre x W _ hi fun a' Wa hax hkf hkp=> ?_)⟩
  have hl0:=hl
  have hd0:=hd
  replace hl:=hkf.same l _ (by simp [l]) hl0 rfl
  replace hd:=hkf.same D _ (by simp [D]) hd0 rfl
  refine ⟨_,run_beginRound hl rfl,?_⟩
  have hlt:=lt_of_heap hl
  have hl2:(Wa.putObj l (rec' .busy none)).heap[l]?=some (rec' .busy none):=World.putObj_heap_same hlt
  have hd2:(Wa.putObj l (rec' .busy none)).heap[D]?=some (.deferred (some [])):=(World.putObj_heap_other hne).trans hd
  have hk2:Kp nV w.heap.size Bout W (Wa.putObj l (rec' .busy none)):=hkp.trans (Kp.putObj (by simp only [l];omega) hl rfl rfl)
  have hab:=AbI.putObj (n0:=w.heap.size) (Bout:=Bout) (o':=rec' .busy none) (by simp [l]) hl rfl
  refine wpIn_mono (hbody l pre x a' _ (hAx _ _ _ _ _ hax hab.below (fun k o hk hc=>by
   have e:k≠l:=by intro e;subst e;rw [hl]at hk;cases hk;cases hc
   exact (World.putObj_heap_other e).trans hk)) hlen) ?_
  have fin : ∀ (jump : Option Code) (W3 : World), KeepsFrom w.heap.size (Wa.putObj l (rec' .busy none)) W3 →
    (Instr.endRound l jump).run P W3= .ok (.bool jump.isNone) (W3.putObj l (rec' (if jump.isNone then .ready else .done) jump))∧W3.heap[l]?=some (rec' .busy none)∧
    (W3.putObj l (rec' (if jump.isNone then .ready else .done) jump)).heap[l]?=some (rec' (if jump.isNone then .ready else .done) jump)∧
    (W3.putObj l (rec' (if jump.isNone then .ready else .done) jump)).heap[D]?=some (.deferred (some [])):=fun jump W3 hk3=>by
   have hl3:=hk3.same l _ (by simp [l]) hl2 rfl
   exact ⟨run_endRound (P:=P) jump hl3,hl3,World.putObj_heap_same (lt_of_heap hl3),(World.putObj_heap_other hne).trans (hk3.same D _ (by simp [D]) hd2 rfl)⟩
  intro e a3 W3 hp
  cases e with
  | normal=>
   obtain ⟨hk3,hkp3,hi3⟩:=hp
   obtain ⟨h1,h2,h3,h4⟩:=fin none W3 hk3
   exact ⟨_,_,h1,.inl ⟨rfl,⟨hI _ _ _ hi3 (AbI.putObj (by simp [l]) h2 rfl),h3,h4⟩,(hk2.trans hkp3).trans (Kp.putObj (by simp only [l];omega) h2 rfl rfl)⟩⟩
  | ret=>
   obtain ⟨hk3,hi3⟩:=hp
   obtain ⟨h1,h2,h3,h4⟩:=fin (some .ret) W3 hk3
   exact ⟨_,_,h1,.inr ⟨rfl,.ret,hIx _ _ _ _ hi3 (AbI.putObj (by simp [l]) h2 rfl),h3,h4⟩⟩
  | exit id=>
   obtain ⟨hk3,hi3⟩:=hp
   obtain ⟨h1,h2,h3,h4⟩:=fin (some (.exit id)) W3 hk3
   exact ⟨_,_,h1,.inr ⟨rfl,.exit id,hIx _ _ _ _ hi3 (AbI.putObj (by simp [l]) h2 rfl),h3,h4⟩⟩
  | goto t=>
   obtain ⟨hk3,hi3⟩:=hp
   obtain ⟨h1,h2,h3,h4⟩:=fin (some (.goto t)) W3 hk3
   exact ⟨_,_,h1,.inr ⟨rfl,.goto t,hIx _ _ _ _ hi3 (AbI.putObj (by simp [l]) h2 rfl),h3,h4⟩⟩
  | panic ch=>exact hp.elim
  | outgrown=>exact hp.elim
 ·
  have hne:D≠l:=by simp [D,l]
  rintro e W2 ⟨⟨v,rfl⟩,(⟨xs,hS,hi,hl,hd⟩ | ⟨pre,hSp,c,hi,hl,hd⟩)⟩
  ·exact ⟨none,_,run_endLoop (P:=P) hl (by simp),hdone D xs _ (Nat.le_refl _) hS (hI _ _ _ hi (AbI.putObj (by simp [l]) hl rfl)) ((World.putObj_heap_other hne).trans hd)⟩
  ·exact ⟨some c,_,run_endLoop (P:=P) hl (by simp),hstop D c pre _ (Nat.le_refl _) hSp (hIx _ _ _ _ hi (AbI.putObj (by simp [l]) hl rfl)) ((World.putObj_heap_other hne).trans hd)⟩
theorem Ab.ext {n1 Bout:Nat} {A B:World} (h:Ext A B) (hn:n1≤A.heap.size):Ab n1 Bout A B:=⟨Below.mono h hn,fun k o ho _=>(h.block (lt_of_heap ho)).trans ho⟩
theorem Kp.ext {nV n0 Bout:Nat} {A B:World} (h:Below A.heap.size A B) (hV:nV≤A.heap.size) (hB:Bout < A.heap.size):Kp nV n0 Bout A B where
 below:=Below.mono h hV
 cells k o _ ho _ _:=(h.block k (lt_of_heap ho)).trans ho
 led k hk:= .inl (by
  obtain ⟨n,c,hc⟩:=hk
  rw [Below.cell (p:=⟨Bout,0,none⟩) h hB]at hc
  exact ⟨n,c,hc⟩)
theorem keeps_ext {n0:Nat} {A B:World} (h:Ext A B):KeepsFrom n0 A B:=⟨Ext.size h,fun k o _ ho _=>(h.block (lt_of_heap ho)).trans ho⟩
theorem Kp.setLow {nV n0 Bout k i:Nat} {A:World} {u:Value} (hV:nV≤k) (hk:k < n0) (hB:Bout≠k):Kp nV n0 Bout A (A.setCell ⟨k,i,none⟩ u) where
 below:=(Below.refl nV A).setCell (p:=⟨k,i,none⟩) hV u
 cells j o hj ho _ _:=(Below.heap_setCell A ⟨k,i,none⟩ u j (fun e=>by simp only at e;omega)).trans ho
 led j hj:= .inl (by
  obtain ⟨n,c,hc⟩:=hj
  rw [World.cell?_of_block (w:=A) (w':=A.setCell ⟨k,i,none⟩ u) (a:=⟨Bout,0,none⟩) (Below.heap_setCell A ⟨k,i,none⟩ u Bout hB)]at hc
  exact ⟨n,c,hc⟩)
theorem led_ext {A B:World} {Bout b:Nat} (h:Ext A B) (hB:Bout < A.heap.size):Led B Bout b↔Led A Bout b:=by
 unfold Led
 rw [Below.cell (p:=⟨Bout,0,none⟩) h hB]
theorem led_set {A:World} {Bout b k i:Nat} {v:Value} (h:Bout≠k):Led (A.setCell ⟨k,i,none⟩ v) Bout b↔Led A Bout b:=by
 unfold Led
 rw [World.cell?_of_block (w:=A) (w':=A.setCell ⟨k,i,none⟩ v) (a:=⟨Bout,0,none⟩) (Below.heap_setCell A ⟨k,i,none⟩ v Bout h)]
theorem Ab.set {n1 Bout k i:Nat} {A:World} {v:Value} (hn:n1≤k) (hc:∃cs t r,A.heap[k]?=some (.cells cs t r)) (hl:¬Led A Bout k):Ab n1 Bout A (A.setCell ⟨k,i,none⟩ v) where
 below:=(Below.refl n1 A).setCell hn v
 kept j o ho h:=by
  by_cases e:j=k
  ·subst e
   obtain ⟨cs,t,r,hk⟩:=hc
   rw [hk]at ho
   cases ho
   rcases h with h | h
   ·cases h
   ·exact absurd h hl
  ·rw [Below.heap_setCell A ⟨k,i,none⟩ v j e];exact ho
theorem Own.same {α:Type} {e:TypeId} {n:Nat} {f:α→List Value} {w w':World} {B:Nat} {v:Value} {xs:List α} (h:Own e n f w B v xs) (hk:∀g cs t r,v.ownBlock=some g→w.heap[g]?=some (.cells cs t r)→w'.heap[g]?=some (.cells cs t r)):Own e n f w' B v xs:=by
 obtain ⟨h1,h2⟩:=h
 refine ⟨h1,?_⟩
 rcases h2 with h2 | ⟨g,cap,cur,hv,hb,hg,r⟩
 ·exact .inl h2
 ·exact .inr ⟨g,cap,cur,hv,hb,hk g cur e (0,0) (by subst hv;rfl) hg,r⟩
structure KpX (K:Nat→Prop) (nV n0 Bout:Nat) (A B:World):Prop where
 kp:Kp nV n0 Bout A B
 more:∀k o,K k→A.heap[k]?=some o→B.heap[k]?=some o
theorem KpX.trans {K:Nat→Prop} {nV n0 Bout:Nat} {A B C:World} (h:KpX K nV n0 Bout A B) (k:KpX K nV n0 Bout B C):KpX K nV n0 Bout A C:=⟨h.kp.trans k.kp,fun i o hi ho=>k.more i o hi (h.more i o hi ho)⟩
theorem KpX.putObj {K:Nat→Prop} {nV n0 Bout:Nat} {W:World} {l:Nat} {o o':Obj} (hK:∀k,K k→k < n0) (hV:nV≤l) (hl:n0≤l) (ho:W.heap[l]?=some o) (hc:o.isCells=false) (hc':o'.isCells=false):KpX K nV n0 Bout W (W.putObj l o'):=
 ⟨Kp.putObj hV ho hc hc',fun k ob hk hob=>(World.putObj_heap_other (by have:=hK k hk;omega)).trans hob⟩
theorem KpX.ext {K:Nat→Prop} {nV n0 Bout:Nat} {A B:World} (h:Ext A B) (hV:nV≤A.heap.size) (hB:Bout < A.heap.size):KpX K nV n0 Bout A B:=⟨Kp.ext h hV hB,fun k o _ ho=>(h.block (lt_of_heap ho)).trans ho⟩
def IterStopsK {α:Type} (P:Program) (g:Nat) (lb:Array Value) (encs:α→Array Value) (K:Nat→Prop) (nV Bout:Nat) (S Sp Gd:List α→Prop) (w:World):Prop:=
 ∀(l:Nat) (J Jx:List α→World→Prop) (W:World),Below w.heap.size w W→(∀s A B,J s A→Ab W.heap.size Bout A B→J s B)→(∀s A B,Jx s A→Ab W.heap.size Bout A B→Jx s B)→
  (∀pre x W1,J pre W1→Gd (pre++ [x])→YieldAt Fence.wide 3 P l (encs x) W1 fun e W'=>
   (e= .returned (.bool true)∧J (pre++ [x]) W'∧KpX K nV w.heap.size Bout W1 W')∨(e= .returned (.bool false)∧Jx (pre++ [x]) W'))→
  J [] W→
  CallsIn Fence.wide 4 P g (#[.func (.yield l) #[] #[]]++lb) W fun e W'=>(∃v,e= .returned v)∧((∃xs,S xs∧J xs W')∨(∃pre,Sp pre∧Jx pre W'))
theorem wpIn_rangeK {α:Type} {P:Program} {g:Operand} {ps:Array Tmp} {assign body:Code} {Q:Exit→Act→World→Prop} {a:Act} {w:World}
  {gf:Nat} {lb:Array Value} (hg:a.eval g= .func (.func gf) #[] lb) (eg:∀args w,(callFunc gf args).run P w= .ok (.enter gf args) w)
  {encs:α→Array Value} {K:Nat→Prop} {nV Bout:Nat} {S Sp Gd:List α→Prop} (hseq:IterStopsK P gf lb encs K nV Bout S Sp Gd w) (hK:∀k,K k→k < w.heap.size) (hV:nV≤w.heap.size) (hps:∀x,(encs x).size=ps.size)
  (I:List α→World→Prop) (Ix:Code→List α→World→Prop) (hI:∀s A B,I s A→AbI w.heap.size Bout A B→I s B) (hIx:∀c s A B,Ix c s A→AbI w.heap.size Bout A B→Ix c s B)
  (h0:I [] w) (Ax:List α→α→Act→World→Prop) (hAx:∀(pre:List α) (x:α) (a':Act) (A B:World),Ax pre x a' A→Below w.heap.size A B→(∀(k:Nat) (o:Obj),A.heap[k]?=some o→o.isCells=true→B.heap[k]?=some o)→Ax pre x a' B)
  (hassign:∀(l:Nat) (pre:List α) (x:α) (W:World) (K0:Act→World→Prop),I pre W→(∀a' W',Ax pre x a' W'→KeepsFrom w.heap.size W W'→KpX K nV w.heap.size Bout W W'→K0 a' W')→
   assign.wpIn (Fence.wide.inRound l) 3 P (Exit.then K0 (fun _ _ _=>False)) {tmps:=(ps.zip (encs x)).foldl (fun t (p,v)=>t.setIfInBounds p v) a.tmps,defers:= []} W)
  (hbody:∀(l:Nat) (pre:List α) (x:α) (a':Act) (W:World),Ax pre x a' W→Gd (pre++ [x])→body.wpIn (Fence.wide.inRound l) 3 P (ownPostG w.heap.size (KpX K nV w.heap.size Bout) I Ix (pre++ [x]) W) a' W)
  (hdone:∀(D:Nat) (xs:List α) (W:World),w.heap.size≤D→S xs→I xs W→W.heap[D]?=some (.deferred (some []))→Q .normal {a with defers:= {target:= .collected D,args:= #[]}::a.defers} W)
  (hstop:∀(D:Nat) (c:Code) (pre:List α) (W:World),w.heap.size≤D→Sp pre→Ix c pre W→W.heap[D]?=some (.deferred (some []))→c.wpIn Fence.wide 5 P Q {a with defers:= {target:= .collected D,args:= #[]}::a.defers} W):
  (Code.rangeFunc g ps assign body).wpIn Fence.wide 5 P Q a w:=by
 refine wpIn_rangeFunc fun fn _=> ?_
 let rec':LoopState→Option Code→Obj:=fun st pe=> .loop {state:=st,pending:=pe,fn,tmps:=a.tmps,params:=ps,assign,body,defers:=w.heap.size}
 let D:=w.heap.size
 let l:=w.heap.size+1
 obtain ⟨W1,hW1⟩:∃W1,(w.alloc (.deferred (some []))).alloc (rec' .ready none)=W1:=⟨_,rfl⟩
 have hs1:W1.heap.size=w.heap.size+2:=by rw [←hW1];simp
 have hL1:W1.heap[l]?=some (rec' .ready none):=by
  rw [←hW1]
  have:=World.alloc_heap_new (w.alloc (.deferred (some []))) (rec' .ready none)
  rwa [World.size_alloc]at this
 have hD1:W1.heap[D]?=some (.deferred (some [])):=by
  rw [←hW1]
  exact (Below.heap_alloc _ _ _ (by simp [D])).trans (World.alloc_heap_new w _)
 have hI1:I [] W1:=by
  rw [←hW1]
  exact hI _ _ _ (hI _ _ _ h0 (AbI.alloc (Nat.le_refl _) _)) (AbI.alloc (by simp) _)
 have hb1:Below w.heap.size w W1:=by
  rw [←hW1]
  exact ((Below.refl _ w).alloc (Nat.le_refl _) _).alloc (by simp) _
 refine ⟨l,[{target:= .collected D,args:= #[]}],W1,{target:= .fn (.func gf) lb,args:= #[.func (.yield l) #[] #[]]},W1,gf,#[.func (.yield l) #[] #[]]++lb,W1,
  (by rw [←hW1];exact run_enterLoop_outer _ _ _ _ _),(by simp only [resolve,hg];simp [go_sem]),(fun f' _=>trivial),(by simp [invoke,go_sem,eg]),(fun h=>by simp [Fence.wide]at h),?_⟩
 refine (hseq l (fun pre W=>I pre W∧W.heap[l]?=some (rec' .ready none)∧W.heap[D]?=some (.deferred (some [])))
  (fun pre W=>∃c,Ix c pre W∧W.heap[l]?=some (rec' .done (some c))∧W.heap[D]?=some (.deferred (some []))) W1 hb1
  (fun s A B h hab=>⟨hI _ _ _ h.1 (hab.I (by omega)),hab.kept _ _ h.2.1 (.inl rfl),hab.kept _ _ h.2.2 (.inl rfl)⟩)
  (fun s A B h hab=>by
   obtain ⟨c,h1,h2,h3⟩:=h
   exact ⟨c,hIx _ _ _ _ h1 (hab.I (by omega)),hab.kept _ _ h2 (.inl rfl),hab.kept _ _ h3 (.inl rfl)⟩)
  ?_ ⟨hI1,hL1,hD1⟩).mono ?_
 ·
  rintro pre x W ⟨hi,hl,hd⟩ hlen
  have hne:D≠l:=by simp [D,l]
  refine ⟨fn,_,assign,body,run_yield (P:=P) (args:=encs x) hl (hps x),roundIn_of_wpIn trivial (hassign _ pre x W _ hi fun a' Wa hax hkf hkp=> ?_)⟩
  have hl0:=hl
  have hd0:=hd
  replace hl:=hkf.same l _ (by simp [l]) hl0 rfl
  replace hd:=hkf.same D _ (by simp [D]) hd0 rfl
  refine ⟨_,run_beginRound hl rfl,?_⟩
  have hlt:=lt_of_heap hl
  have hl2:(Wa.putObj l (rec' .busy none)).heap[l]?=some (rec' .busy none):=World.putObj_heap_same hlt
  have hd2:(Wa.putObj l (rec' .busy none)).heap[D]?=some (.deferred (some [])):=(World.putObj_heap_other hne).trans hd
  have hk2:KpX K nV w.heap.size Bout W (Wa.putObj l (rec' .busy none)):=hkp.trans (KpX.putObj hK (by simp only [l];omega) (by simp [l]) hl rfl rfl)
  have hab:=AbI.putObj (n0:=w.heap.size) (Bout:=Bout) (o':=rec' .busy none) (by simp [l]) hl rfl
  refine wpIn_mono (hbody l pre x a' _ (hAx _ _ _ _ _ hax hab.below (fun k o hk hc=>by
   have e:k≠l:=by intro e;subst e;rw [hl]at hk;cases hk;cases hc
   exact (World.putObj_heap_other e).trans hk)) hlen) ?_
  have fin : ∀ (jump : Option Code) (W3 : World), KeepsFrom w.heap.size (Wa.putObj l (rec' .busy none)) W3 →
    (Instr.endRound l jump).run P W3= .ok (.bool jump.isNone) (W3.putObj l (rec' (if jump.isNone then .ready else .done) jump))∧W3.heap[l]?=some (rec' .busy none)∧
    (W3.putObj l (rec' (if jump.isNone then .ready else .done) jump)).heap[l]?=some (rec' (if jump.isNone then .ready else .done) jump)∧
    (W3.putObj l (rec' (if jump.isNone then .ready else .done) jump)).heap[D]?=some (.deferred (some [])):=fun jump W3 hk3=>by
   have hl3:=hk3.same l _ (by simp [l]) hl2 rfl
   exact ⟨run_endRound (P:=P) jump hl3,hl3,World.putObj_heap_same (lt_of_heap hl3),(World.putObj_heap_other hne).trans (hk3.same D _ (by simp [D]) hd2 rfl)⟩
  intro e a3 W3 hp
  cases e with
  | normal=>
   obtain ⟨hk3,hkp3,hi3⟩:=hp
   obtain ⟨h1,h2,h3,h4⟩:=fin none W3 hk3
   exact ⟨_,_,h1,.inl ⟨rfl,⟨hI _ _ _ hi3 (AbI.putObj (by simp [l]) h2 rfl),h3,h4⟩,(hk2.trans hkp3).trans (KpX.putObj hK (by simp only [l];omega) (by simp [l]) h2 rfl rfl)⟩⟩
  | ret=>
   obtain ⟨hk3,hi3⟩:=hp
   obtain ⟨h1,h2,h3,h4⟩:=fin (some .ret) W3 hk3
   exact ⟨_,_,h1,.inr ⟨rfl,.ret,hIx _ _ _ _ hi3 (AbI.putObj (by simp [l]) h2 rfl),h3,h4⟩⟩
  | exit id=>
   obtain ⟨hk3,hi3⟩:=hp
   obtain ⟨h1,h2,h3,h4⟩:=fin (some (.exit id)) W3 hk3
   exact ⟨_,_,h1,.inr ⟨rfl,.exit id,hIx _ _ _ _ hi3 (AbI.putObj (by simp [l]) h2 rfl),h3,h4⟩⟩
  | goto t=>
   obtain ⟨hk3,hi3⟩:=hp
   obtain ⟨h1,h2,h3,h4⟩:=fin (some (.goto t)) W3 hk3
   exact ⟨_,_,h1,.inr ⟨rfl,.goto t,hIx _ _ _ _ hi3 (AbI.putObj (by simp [l]) h2 rfl),h3,h4⟩⟩
  | panic ch=>exact hp.elim
  | outgrown=>exact hp.elim
 ·
  have hne:D≠l:=by simp [D,l]
  rintro e W2 ⟨⟨v,rfl⟩,(⟨xs,hS,hi,hl,hd⟩ | ⟨pre,hSp,c,hi,hl,hd⟩)⟩
  ·exact ⟨none,_,run_endLoop (P:=P) hl (by simp),hdone D xs _ (Nat.le_refl _) hS (hI _ _ _ hi (AbI.putObj (by simp [l]) hl rfl)) ((World.putObj_heap_other hne).trans hd)⟩
  ·exact ⟨some c,_,run_endLoop (P:=P) hl (by simp),hstop D c pre _ (Nat.le_refl _) hSp (hIx _ _ _ _ hi (AbI.putObj (by simp [l]) hl rfl)) ((World.putObj_heap_other hne).trans hd)⟩
end Go.Proofs.Ytemmjmplhknemaa
