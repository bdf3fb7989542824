/- Merged by program (merge.py) out of: Kc. -/
import Derived.Test.YtemmjmplhknemaaMp17
import Derived.Test.YtemmjmplhknemaaMp21
set_option linter.unusedSimpArgs false
set_option linter.unusedVariables false
set_option maxRecDepth 100000
set_option maxHeartbeats 16000000
namespace Go.Proofs.Ytemmjmplhknemaa
open Go.RowKit Go.Shelf
structure Kc (L:Nat) (w w':World):Prop where
 keep:∀(k:Nat) (o:Obj),k≠L→w.heap[k]?=some o→o.isCells=true→w'.heap[k]?=some o
 size:w.heap.size≤w'.heap.size
section
variable {L : Nat} {w w' w'' : World}
theorem Kc.trans (h:Kc L w w') (k:Kc L w' w''):Kc L w w'':=⟨fun i o hi ho hc=>k.keep i o hi (h.keep i o hi ho hc) hc,Nat.le_trans h.size k.size⟩
theorem Kc.ext (L:Nat) (h:Ext w w'):Kc L w w':=⟨fun k o _ ho _=>(h.block (lt_of_heap ho)).trans ho,h.size⟩
theorem Kc.set (L:Nat) (w:World) (i:Nat) (u:Value):Kc L w (w.setCell ⟨L,i,none⟩ u):=⟨fun k o hk ho _=>(Below.heap_setCell w ⟨L,i,none⟩ u k hk).trans ho,by simp⟩
theorem Kc.map {b n:Nat} {S:Int→Bool} (L:Nat) (h:SetI w b n S) (hg:w.grownBy w' (some b)):Kc L w w':=
 ⟨fun k o _ ho hc=>(hg.block k (lt_of_heap ho) (fun e=>by
  injection e with e
  subst e
  obtain ⟨D,⟨es,clock,hb,_⟩,_⟩:=h
  rw [hb]at ho
  cases ho
  cases hc)).trans ho,hg.size⟩
theorem SetI.ne {b n:Nat} {S:Int→Bool} (h:SetI w b n S) {k:Nat} {cs:Array Value} {t:TypeId} {r:Nat×Nat} (hk:w.heap[k]?=some (.cells cs t r)):b≠k:=by
 intro e
 subst e
 obtain ⟨D,⟨es,clock,hb,_⟩,_⟩:=h
 rw [hb]at hk
 cases hk
theorem Own.kc {α:Type} {e:TypeId} {n:Nat} {f:α→List Value} {B:Nat} {v:Value} {xs:List α} (h:Own e n f w B v xs) (hk:Kc L w w') {cs:Array Value} {t:TypeId} {r:Nat×Nat} (hL:w.heap[L]?=some (.cells cs t r)) (hne:t≠e):Own e n f w' B v xs:=
 h.same fun g cs2 ty r2 hg hc=>hk.keep g _ (fun e2=>(h.ne_block hL hne) (by rw [hg,e2])) hc rfl
theorem ArO.kc {Bo b cap:Nat} {A:Option Addr} {ws:List Int} (h:ArO Bo w b A cap ws) (hk:Kc L w w') {cs:Array Value} {t:TypeId} {r:Nat×Nat} (hL:w.heap[L]?=some (.cells cs t r)) (h1:t≠54) (h2:t≠112):ArO Bo w' b A cap ws:=
 ⟨hk.keep b _ (fun e=>by
  have:=h.blk
  rw [e,hL]at this
  injection this with this
  injection this with _ this
  exact h2 this) h.blk rfl,h.own.kc hk hL h1,h.base,h.len,h.bd⟩
end
end Go.Proofs.Ytemmjmplhknemaa
