/- Merged by program (merge.py) out of: Own. -/
import Derived.Deep.AppendLies
import Derived.Laws.AppendOwnNone
import Derived.Test.YtemmjmplhknemaaMp1
set_option linter.unusedSimpArgs false
set_option linter.unusedVariables false
set_option maxRecDepth 100000
set_option maxHeartbeats 16000000
namespace Go.Proofs.Ytemmjmplhknemaa
open Go.RowKit
def Own {α:Type} (e:TypeId) (n:Nat) (f:α→List Value) (w:World) (B:Nat) (v:Value) (xs:List α):Prop:=w.ownsRow B e n v xs.length (xs.flatMap f)
theorem belowN {B:Nat} {a w:World} (h:Below B a w) (n:Nat):Below B a (w.drewN n):=⟨h.os,h.tape,h.output,h.size,h.block⟩
theorem Own.below {α:Type} {e:TypeId} {n:Nat} {f:α→List Value} {w w1 w' a:World} {B:Nat} {v:Value} {xs:List α} (h:Own e n f w B v xs) (hb:Below B a w1) (hg:w1.grownBy w' v.ownBlock) (hB:B≤w1.heap.size):Below B a w':=
 hb.grown hg hB (fun k hk=>(World.ownsRow.lt h k hk).1)
structure Info (P:Program) (t e:TypeId) (n bytes:Nat):Prop where
 und:P.underlying t=some (.slice e)
 inf:∃(i:TypeInfo) (z:Value),P.info? e=some i∧i.zero=some z∧i.size=n∧i.bytes=bytes∧z.cells.size=n
 pos:0 < n
structure Cells {α:Type} (n:Nat) (f:α→List Value):Prop where
 len:∀x,(f x).length=n
 one:∀x u,u∈f x→u.oneCell'=true
theorem intCells:Cells 1 intC:=⟨fun _=>rfl,fun x u h=>by simp [intC]at h;subst h;rfl⟩
theorem spanCells:Cells 2 spanC:=⟨fun _=>rfl,fun x u h=>by simp [spanC]at h;rcases h with rfl | rfl <;>rfl⟩
section
variable {α : Type} {e : TypeId} {n : Nat} {f : α → List Value} {B : Nat} {v : Value} {xs ys : List α} {w w' : World}
theorem flat_len (hf:Cells n f) (l:List α):(l.flatMap f).length=l.length*n:=by
 induction l with
 | nil=>simp
 | cons x l ih=>simp [List.flatMap_cons,hf.len,ih,Nat.add_mul,Nat.add_comm]
theorem flat_at (hf:Cells n f) (hn:0 < n):∀(l:List α) (j:Nat) (u:Value),(l.flatMap f)[j]?=some u↔∃x,l[j/n]?=some x∧(f x)[j % n]?=some u:=by
 intro l
 induction l with
 | nil=>intro j u;simp
 | cons x l ih=>
  intro j u
  rw [List.flatMap_cons]
  rcases Nat.lt_or_ge j n with h | h
  ·rw [List.getElem?_append_left (by rw [hf.len];exact h),Nat.div_eq_of_lt h,Nat.mod_eq_of_lt h]
   simp
  ·rw [List.getElem?_append_right (by rw [hf.len];exact h),hf.len,ih]
   have h1:j/n=(j - n)/n+1:=by rw [←Nat.sub_add_cancel h,Nat.add_div_right _ hn];simp
   have h2:j % n=(j - n) % n:=by conv=>lhs;rw [←Nat.sub_add_cancel h,Nat.add_mod_right]
   rw [h1,h2]
   simp
theorem flat_get (hf:Cells n f) (hn:0 < n) {l:List α} {i j:Nat} {x:α} {u:Value} (hx:l[i]?=some x) (hj:(f x)[j]?=some u):(l.flatMap f)[i*n+j]?=some u:=by
 have hjn:j < n:=by
  have:=(List.getElem?_eq_some_iff.1 hj).1
  rwa [hf.len]at this
 rw [flat_at hf hn]
 refine ⟨x,?_,?_⟩
 ·rw [Nat.mul_comm,Nat.mul_add_div hn,Nat.div_eq_of_lt hjn];simpa using hx
 ·rw [Nat.mul_comm,Nat.mul_add_mod,Nat.mod_eq_of_lt hjn];exact hj
theorem Own.form (h:Own e n f w B v xs) (hf:Cells n f) (hn:0 < n):∃A cap,v= .slice A xs.length cap∧RowAt n f w A xs∧(A=none→cap=0)∧(∀ad,A=some ad→B≤ad.block∧ad.block < w.heap.size∧ad.spot=none∧ad.off=0)∧xs.length≤cap∧cap≤maxLen:=by
 rcases h.2 with ⟨rfl,h0⟩ | ⟨g,cap,cur,rfl,hb,hg,hnc,hcm,hcs,htake⟩
 ·have:xs= []:=List.eq_nil_of_length_eq_zero h0
  subst this
  exact ⟨none,0,rfl,⟨0,0,by simp,by simp⟩,fun _=>rfl,by simp,by simp,by simp [maxLen]⟩
 ·refine ⟨some ⟨g,0,none⟩,cap,rfl,⟨g,0,fun _=>rfl,fun i x hx j u hj=> ?_⟩,by simp,?_,hnc,hcm⟩
  ·have h1:=flat_get hf hn hx hj
   have h2:=World.ownsRow.cells h (g:=g) rfl _ _ h1
   have h3:(⟨g,0,none⟩:Addr).add (i*n+j)=⟨g,0+i*n+j,none⟩:=by
    unfold Addr.add;split <;>simp_all
   rw [←h3];exact h2
  ·intro ad had
   injection had with had
   subst had
   refine ⟨hb,?_,rfl,rfl⟩
   rcases Nat.lt_or_ge g w.heap.size with hlt | hge
   ·exact hlt
   ·rw [Array.getElem?_eq_none hge]at hg;cases hg
theorem Own.nil (e:TypeId) (n:Nat) (f:α→List Value) (w:World) (B:Nat):Own e n f w B (.slice none 0 0) []:=by
 unfold Own;simpa using World.ownsRow_nil w B e n
theorem Own.empty (e:TypeId) (n:Nat) (f:α→List Value) (w:World) (B:Nat) (hB:B≤w.heap.size):Own e n f (w.alloc (.cells #[] e)) B (.slice (some ⟨w.heap.size,0,none⟩) 0 0) ([]:List α):=by
 unfold Own
 simpa using World.ownsRow_made (e:=e) (size:=n) (base:=B) w #[] 0 hB (by simp [maxLen]) (by simp)
theorem Own.ext (h:Own e n f w B v xs) (he:Ext w w'):Own e n f w' B v xs:=by
 obtain ⟨h1,h2⟩:=h
 refine ⟨h1,?_⟩
 rcases h2 with h2 | ⟨g,cap,cur,hv,hb,hg,r⟩
 ·exact .inl h2
 ·refine .inr ⟨g,cap,cur,hv,hb,?_,r⟩
  rw [he.block ?_];exact hg
  rcases Nat.lt_or_ge g w.heap.size with hlt | hge
  ·exact hlt
  ·rw [Array.getElem?_eq_none hge]at hg;cases hg
theorem Own.mono (h:Own e n f w B v xs) {B':Nat} (hb:B'≤B):Own e n f w B' v xs:=by
 obtain ⟨h1,h2⟩:=h
 exact ⟨h1,h2.imp id (fun ⟨g,cap,cur,hv,hg,r⟩=>⟨g,cap,cur,hv,Nat.le_trans hb hg,r⟩)⟩
theorem Own.grown {U:World} (h:Own e n f w B v xs) (hg:w.grownBy w' v.ownBlock) (hU:U.heap.size≤B) (he:Ext U w):Ext U w':=
 Below.grown he hg (Ext.size he) (fun k hk=>Nat.le_trans hU (World.ownsRow.lt h k hk).1)
theorem Own.kept {β:Type} {e2:TypeId} {n2:Nat} {g:β→List Value} {v2:Value} {zs:List β} {B2:Nat} {row:Option Nat} (h:Own e2 n2 g w B2 v2 zs) (hg:w.grownBy w' row) (hne:v2.ownBlock=none∨v2.ownBlock≠row):Own e2 n2 g w' B2 v2 zs:=
 World.ownsRow.kept h hg hne
variable {P : Program} {t : TypeId} {bytes : Nat}
theorem row_cells (hf:Cells n f) (hn:0 < n) {ad:Addr} (hr:RowAt n f w (some ad) ys):∀j u,(ys.flatMap f)[j]?=some u→w.cell? (ad.add j)=some u:=by
 intro j u hj
 obtain ⟨x,hx,hu⟩:=(flat_at hf hn ys j u).1 hj
 obtain ⟨b,off,hA,hc⟩:=hr
 have hne:ys≠ []:=by intro e;subst e;simp at hx
 have hA':=hA hne
 injection hA' with hA'
 subst hA'
 have h1:=hc _ x hx _ u hu
 have h3:(⟨b,off,none⟩:Addr).add j=⟨b,off+j/n*n+j % n,none⟩:=by
  have hd:off+j/n*n+j % n=off+j:=by rw [Nat.add_assoc,Nat.mul_comm,Nat.div_add_mod]
  rw [hd]
  unfold Addr.add;split <;>simp_all
 rw [h3];exact h1
theorem run_app (hI:Info P t e n bytes) (hf:Cells n f) (ty:TypeId) (hown:Own e n f w B v xs) (ad:Addr) (c:Nat) (hr:RowAt n f w (some ad) ys)
  (hlen:(xs.length+ys.length)*bytes≤140737488355328) (h63:xs.length+ys.length≤maxLen) (hB:B≤w.heap.size):
  ∃A cap w',(Builtin.append_ #[t,t] ty #[v,.slice (some ad) ys.length c]).run P w= .ok (.slice A (xs.length+ys.length) cap) w'∧
   Own e n f w' B (.slice A (xs.length+ys.length) cap) (xs++ys)∧w.grownBy w' v.ownBlock∧
   ((Value.slice A (xs.length+ys.length) cap).ownBlock=v.ownBlock∨(Value.slice A (xs.length+ys.length) cap).ownBlock=some w.heap.size):=by
 obtain ⟨i,z,hi,hz,hs,hby,hzs⟩:=hI.inf
 obtain ⟨v',w',hr',h2,h3,h4,h5⟩:=run_append_own_at (P:=P) w B t ty e i z n bytes hI.und hi hz hs hby hzs hI.pos v xs.length (xs.flatMap f) hown ad ys.length c (ys.flatMap f) (flat_len hf ys)
  (row_cells hf hI.pos hr) (fun u hu=>by obtain ⟨x,_,hx⟩:=List.mem_flatMap.1 hu;exact hf.one x u hx) h63 hlen hB
 have hown':Own e n f w' B v' (xs++ys):=by unfold Own;rw [List.length_append,List.flatMap_append];exact h2
 obtain ⟨A,cap,rfl,_⟩:=hown'.form hf hI.pos
 rw [List.length_append]at hr' hown' h5
 exact ⟨A,cap,w',hr',hown',h3,h5⟩
theorem wp_app {o:Oper} {a:Act} {K:Act→World→Prop} {Q:Exit→Act→World→Prop} (s x:Operand) (t:TypeId)
  (ho:o.op= .call {callee:= .builtin .append,args:= #[s,x],argTypes:= #[t,t]}) (hI:Info P t e n bytes) (hf:Cells n f)
  (hs:a.eval s=v) (hown:Own e n f w B v xs) (ad:Addr) (c:Nat) (ys:List α) (r m:Nat) (hk:xs.length+ys.length=r) (hm:ys.length=m) (hx:a.eval x= .slice (some ad) m c) (hr:RowAt n f w (some ad) ys)
  (hlen:r*bytes≤140737488355328) (h63:r≤maxLen) (hB:B≤w.heap.size)
  (h:∀A cap w',Own e n f w' B (.slice A r cap) (xs++ys)→w.grownBy w' v.ownBlock→
   ((Value.slice A r cap).ownBlock=v.ownBlock∨(Value.slice A r cap).ownBlock=some w.heap.size)→
   K (a.put o.dst (.slice A r cap)) w'):o.wp P a w K Q:=by
 subst hk hm
 obtain ⟨A,cap,w',hr',h2,h3,h4⟩:=run_app hI hf o.type hown ad c hr hlen h63 hB
 unfold Oper.wp execOp
 simp only [ho,resolve,invoke,builtin,Sem.run_bind,Sem.run_pure,Result.andThen_ok,List.map_toArray,List.map_cons,List.map_nil,hs,hx,hr']
 exact h A cap w' h2 h3 h4
theorem row_lit (w:World) (cs:Array Value) (hcs:cs=(ys.flatMap f).toArray) (hf:Cells n f) (hn:0 < n):RowAt n f (w.alloc (.cells cs e)) (some ⟨w.heap.size,0,none⟩) ys:=by
 refine ⟨w.heap.size,0,fun _=>rfl,fun i x hx j u hu=> ?_⟩
 have:=flat_get hf hn hx hu
 subst hcs
 simp only [World.cell?_alloc_new,List.getElem?_toArray,Nat.zero_add]
 exact this
end
section
variable {α : Type} {e : TypeId} {n : Nat} {f : α → List Value} {B : Nat} {v : Value} {xs : List α} {w : World} {P : Program} {bytes : Nat}
theorem RowAt.drop {b off:Nat} (h:RowAt n f w (some ⟨b,off,none⟩) xs) (m:Nat):RowAt n f w (some ⟨b,off+m*n,none⟩) (xs.drop m):=by
 obtain ⟨b',off',hA,hc⟩:=h
 refine ⟨b,off+m*n,fun _=>rfl,fun i x hx j u hu=> ?_⟩
 rw [List.getElem?_drop]at hx
 have hne:xs≠ []:=by intro e;subst e;simp at hx
 have hA':=hA hne
 simp only [Option.some.injEq,Addr.mk.injEq,and_true]at hA'
 obtain ⟨rfl,rfl⟩:=hA'
 have:=hc (m+i) x hx j u hu
 rw [Nat.add_mul]at this
 rw [show off+m*n+i*n+j=off+(m*n+i*n)+j by omega]
 exact this
theorem RowAt.none (f:α→List Value) (w:World) (A:Option Addr):RowAt n f w A []:=⟨0,0,fun h=>absurd rfl h,by simp⟩
theorem wpList_app_lit {ops:Array Oper} {rest:List Oper} {o:Oper} {a:Act} {Q:Exit→Act→World→Prop} (hgd:o.guard=none) (s x:Operand) (t:TypeId)
  (ho:o.op= .call {callee:= .builtin .append,args:= #[s,x],argTypes:= #[t,t]}) (hI:Info P t e n bytes) (hf:Cells n f)
  (hs:a.eval s=v) (hown:Own e n f w B v xs) (ys:List α) (c:Nat) (cs:Array Value) (hcs:cs=(ys.flatMap f).toArray) (r m:Nat) (hk:xs.length+ys.length=r) (hm:ys.length=m) (H:Nat) (hx:a.eval x= .slice (some ⟨H,0,none⟩) m c) (hH:w.heap.size=H)
  (hlen:r*bytes≤140737488355328) (h63:r≤maxLen) (hB:B≤w.heap.size)
  (h:∀A cap w',Own e n f w' B (.slice A r cap) (xs++ys)→(w.alloc (.cells cs e)).grownBy w' v.ownBlock→
   ((Value.slice A r cap).ownBlock=v.ownBlock∨(Value.slice A r cap).ownBlock=some (w.heap.size+1))→
   wpList P ops Q rest (a.put o.dst (.slice A r cap)) w'):wpList P ops Q (o::rest) a (w.alloc (.cells cs e)):=
 wpList_plain hgd fun _ hK=>wp_app s x t ho hI hf hs (hown.ext ((Ext.refl _).alloc _)) _ c ys r m hk hm (by rw [hx,←hH]) (row_lit w cs hcs hf hI.pos) hlen h63 (by simp;omega) fun A cap w' h2 h3 h4=>hK _ _ (h A cap w' h2 h3 (by simpa using h4))
theorem wpList_app {ops:Array Oper} {rest:List Oper} {o:Oper} {a:Act} {Q:Exit→Act→World→Prop} (hgd:o.guard=none) (s x:Operand) (t:TypeId)
  (ho:o.op= .call {callee:= .builtin .append,args:= #[s,x],argTypes:= #[t,t]}) (hI:Info P t e n bytes) (hf:Cells n f)
  (hs:a.eval s=v) (hown:Own e n f w B v xs) (ys:List α) (ad:Addr) (c:Nat) (r m:Nat) (hk:xs.length+ys.length=r) (hm:ys.length=m) (hx:a.eval x= .slice (some ad) m c) (hr:RowAt n f w (some ad) ys)
  (hlen:r*bytes≤140737488355328) (h63:r≤maxLen) (hB:B≤w.heap.size)
  (h:∀A cap w',Own e n f w' B (.slice A r cap) (xs++ys)→w.grownBy w' v.ownBlock→
   ((Value.slice A r cap).ownBlock=v.ownBlock∨(Value.slice A r cap).ownBlock=some w.heap.size)→
   wpList P ops Q rest (a.put o.dst (.slice A r cap)) w'):wpList P ops Q (o::rest) a w:=
 wpList_plain hgd fun _ hK=>wp_app s x t ho hI hf hs hown ad c ys r m hk hm hx hr hlen h63 hB fun A cap w' h2 h3 h4=>hK _ _ (h A cap w' h2 h3 h4)
end
end Go.Proofs.Ytemmjmplhknemaa
