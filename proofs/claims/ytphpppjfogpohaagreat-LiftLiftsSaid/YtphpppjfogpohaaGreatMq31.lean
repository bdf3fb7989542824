/- Merged by program (merge.py) out of: RchP. -/
import Derived.Test.YtphpppjfogpohaaGreatMq0
import Derived.Test.YtphpppjfogpohaaGreatRows
set_option linter.unusedSimpArgs false
set_option linter.unusedVariables false
set_option maxRecDepth 100000
set_option maxHeartbeats 16000000
namespace Go.Proofs.YtphpppjfogpohaaGreat
structure PlE where
 n:Nat
 sz:Nat→Nat
 fs:Nat→List (Int×Int)
 lim:Nat
 blk:Nat
structure PlD where
 small:List Nat
 begins:List Nat
 lk:List Bool
 large:List Nat
 pile:List Nat
 top:Nat
def PlD.new:PlD:=⟨[],[],[],[],[],0⟩
def PlD.has (p:PlD) (i:Nat):Bool:=decide (i∈p.small) || decide (i∈p.large)
def PlD.fresh (p:PlD) (v:Int×Int):Bool:=decide (v.1=2) && !p.has v.2.toNat
def PlD.addL (p:PlD) (i:Nat):PlD:=⟨p.small,p.begins,p.lk,p.large++ [i],p.pile++ [i],p.top⟩
def PlD.addS (p:PlD) (mk:Bool) (i s:Nat):PlD:=⟨p.small++ [i],p.begins++ [p.top],p.lk++ [mk],p.large,p.pile,p.top+s⟩
section
variable (E : PlE)
def meetP (mk:Bool) (p:PlD) (v:Int×Int):PlD:=
 if p.fresh v then (if E.lim < E.sz v.2.toNat then p.addL v.2.toNat else p.addS mk v.2.toNat (E.sz v.2.toNat))else p
def newP (p:PlD) (v:Int×Int):Bool:=p.fresh v && decide (E.sz v.2.toNat≤E.lim)
def allP (mk:Bool) (p:PlD) (l:List (Int×Int)):PlD:=l.foldl (meetP E mk) p
def deepP (mk:Bool):Nat→PlD→List (Int×Int)→PlD
 | 0,p,_=>p
 | f+1,p,l=>l.foldl (fun p v=>if newP E p v then deepP mk f (meetP E mk p v) (E.fs v.2.toNat)else meetP E mk p v) p
def oneP (mk:Bool) (f:Nat) (p:PlD) (v:Int×Int):PlD:=if newP E p v then deepP E mk f (meetP E mk p v) (E.fs v.2.toNat)else meetP E mk p v
theorem bu (mk:Bool) (f:Nat) (p:PlD) (l:List (Int×Int)):deepP E mk (f+1) p l=l.foldl (oneP E mk f) p:=rfl
def PlE.Ok:Prop:=∀i,i < E.n→∀v∈E.fs i,v.1=2→0≤v.2∧v.2 < E.n
end
def PlD.met (p:PlD):Nat:=p.small.length+p.large.length
structure PlOk (E:PlE) (p:PlD):Prop where
 nd:(p.small++p.large).Nodup
 lt:∀i∈p.small++p.large,i < E.n
 bl:p.begins.length=p.small.length
 ll:p.lk.length=p.small.length
 pl:∀i∈p.pile,i∈p.large
def bF (n:Nat) (l:List (Int×Int)):Prop:=∀v∈l,v.1=2→0≤v.2∧v.2 < n
section
variable {E : PlE} {p q : PlD} {mk : Bool} {v : Int × Int} {l : List (Int × Int)}
theorem PlOk.new:PlOk E PlD.new:=⟨by simp [PlD.new],by simp [PlD.new],rfl,rfl,by simp [PlD.new]⟩
theorem PlD.has_iff {i:Nat}:p.has i=true↔i∈p.small++p.large:=by simp [PlD.has]
abbrev AV := @PlD.has_iff
theorem PlD.fresh_iff:p.fresh v=true↔v.1=2∧v.2.toNat∉p.small++p.large:=by
 rw [PlD.fresh,Bool.and_eq_true,decide_eq_true_eq,Bool.not_eq_true',←Bool.not_eq_true,AV]
abbrev AQ := @PlD.fresh_iff
theorem lZ {l:List Nat} {i:Nat} (h:l.Nodup) (hi:i∉l):(l++ [i]).Nodup:=by
 rw [List.nodup_append]
 exact ⟨h,by simp,fun a ha b hb=>by simp at hb;subst hb;exact fun e=>hi (e ▸ ha)⟩
theorem PlOk.meet (h:PlOk E p) (hv:v.1=2→v.2.toNat < E.n):PlOk E (meetP E mk p v):=by
 unfold meetP
 split
 rotate_left
 ·exact h
 rename_i hf
 obtain ⟨h1,h2⟩:=AQ.1 hf
 have h3:=hv h1
 split
 ·refine ⟨?_,?_,h.bl,h.ll,?_⟩
  ·simp only [PlD.addL]
   rw [←List.append_assoc]
   exact lZ h.nd h2
  ·simp only [PlD.addL]
   intro i hi
   rw [←List.append_assoc]at hi
   rcases List.mem_append.1 hi with hi | hi
   ·exact h.lt i hi
   ·simp at hi;omega
  ·simp only [PlD.addL]
   intro i hi
   rcases List.mem_append.1 hi with hi | hi
   ·exact List.mem_append_left _ (h.pl i hi)
   ·exact List.mem_append_right _ hi
 ·refine ⟨?_,?_,by simp [PlD.addS,h.bl],by simp [PlD.addS,h.ll],h.pl⟩
  ·simp only [PlD.addS]
   have:=lZ h.nd h2
   refine List.Perm.nodup (l:=p.small++p.large++ [v.2.toNat]) ?_ this
   simp only [List.append_assoc]
   exact List.Perm.append_left _ List.perm_append_comm
  ·simp only [PlD.addS]
   intro i hi
   simp only [List.mem_append,List.mem_singleton]at hi
   rcases hi with (hi | hi) | hi
   ·exact h.lt i (List.mem_append_left _ hi)
   ·omega
   ·exact h.lt i (List.mem_append_right _ hi)
theorem qW:(meetP E mk p v).met=p.met+(if p.fresh v then 1 else 0):=by
 unfold meetP
 by_cases h:p.fresh v=true
 ·rw [if_pos h,if_pos h]
  split <;>simp [PlD.addL,PlD.addS,PlD.met] <;>omega
 ·rw [if_neg h,if_neg h];rfl
theorem PlOk.all (h:PlOk E p) (hl:bF E.n l):PlOk E (allP E mk p l):=by
 unfold allP
 induction l generalizing p with
 | nil=>exact h
 | cons v l ih=>
  refine ih (h.meet fun h1=> ?_) fun u hu=>hl u (List.mem_cons_of_mem _ hu)
  have:=hl v (List.mem_cons_self ..) h1
  omega
theorem fy:∀(n:Nat) (l:List Nat),l.Nodup→(∀i∈l,i < n)→l.length≤n
 | 0,l,_,h=>by
  cases l with
  | nil=>simp
  | cons x l=>exact absurd (h x (List.mem_cons_self ..)) oM
 | n+1,l,hd,h=>by
  by_cases hn:n∈l
  ·have h1 := fy n (l.erase n) (hd.erase n) (fun i hi => by
    have h2:=h i (List.mem_of_mem_erase hi)
    have h3:i≠n:=fun e=>by subst e;exact hd.not_mem_erase hi
    omega)
   rw [List.length_erase_of_mem hn]at h1
   omega
  ·have h1 := fy n l hd (fun i hi => by
    have h2:=h i hi
    have h3:i≠n:=fun e=>by subst e;exact hn hi
    omega)
   omega
theorem PlOk.met_le (h:PlOk E p):p.met≤E.n:=by
 have:=fy _ _ h.nd h.lt
 simpa [PlD.met]using this
theorem fF:newP E p v=true↔p.fresh v=true∧E.sz v.2.toNat≤E.lim:=by rw [newP,Bool.and_eq_true,decide_eq_true_eq]
theorem jA (h:newP E p v=true):(meetP E mk p v).met=p.met+1:=by rw [qW,if_pos (fF.1 h).1]
theorem jZ (hl:v.1=2→0≤v.2∧v.2 < E.n) (h:newP E p v=true):v.2.toNat < E.n:=by
 have:=hl (AQ.1 (fF.1 h).1).1
 omega
theorem iB:p.met≤(meetP E mk p v).met:=by rw [qW];omega
theorem ep {α β:Type} {f:α→β→α} {I:α→Prop}:∀(l:List β) (a:α),(∀b∈l,∀a,I a→I (f a b))→I a→I (l.foldl f a)
 | [],_,_,h=>h
 | b::l,a,hf,h=>ep l (f a b) (fun c hc=>hf c (List.mem_cons_of_mem _ hc)) (hf b (List.mem_cons_self ..) a h)
theorem nF {α β:Type} {f g:α→β→α} {I:α→Prop}:∀(l:List β) (a:α),(∀b∈l,∀a,I a→I (f a b)∧f a b=g a b)→I a→l.foldl f a=l.foldl g a
 | [],_,_,_=>rfl
 | b::l,a,hf,h=>by
  have h1:=hf b (List.mem_cons_self ..) a h
  rw [List.foldl_cons,List.foldl_cons,←h1.2]
  exact nF l (f a b) (fun c hc=>hf c (List.mem_cons_of_mem _ hc)) h1.1
theorem PlOk.deep (hE:E.Ok):∀(f:Nat) (p:PlD) (l:List (Int×Int)),PlOk E p→bF E.n l→PlOk E (deepP E mk f p l)∧p.met≤(deepP E mk f p l).met:=by
 intro f
 induction f with
 | zero=>exact fun p l h _=>⟨h,Nat.le_refl _⟩
 | succ f ih=>
  intro p l h hl
  refine ep (f:=oneP E mk f) (I:=fun q=>PlOk E q∧p.met≤q.met) l p (fun v hv q hq=> ?_) ⟨h,Nat.le_refl _⟩
  have hv1:v.1=2→v.2.toNat < E.n:=fun e=>by have:=hl v hv e;omega
  by_cases hn:newP E q v=true
  ·rw [oneP,if_pos hn]
   have:=ih (meetP E mk q v) (E.fs v.2.toNat) (hq.1.meet hv1) (hE _ (jZ (hl v hv) hn))
   exact ⟨this.1,Nat.le_trans hq.2 (Nat.le_trans iB this.2)⟩
  ·rw [oneP,if_neg hn]
   exact ⟨hq.1.meet hv1,Nat.le_trans hq.2 iB⟩
theorem nG (hE:E.Ok) {f:Nat} (h:PlOk E p) (hv:v.1=2→0≤v.2∧v.2 < E.n):PlOk E (oneP E mk f p v)∧p.met≤(oneP E mk f p v).met:=
 PlOk.deep hE (f+1) p [v] h (fun u hu=>by simp at hu;subst hu;exact hv)
theorem nH (hE:E.Ok):∀(f:Nat) (p:PlD) (l:List (Int×Int)),PlOk E p→bF E.n l→E.n < f+p.met→deepP E mk (f+1) p l=deepP E mk f p l:=by
 intro f
 induction f with
 | zero=>exact fun p l h _ hf=>by have:=h.met_le;omega
 | succ f ih=>
  intro p l h hl hf
  refine nF (f:=oneP E mk (f+1)) (g:=oneP E mk f) (I:=fun q=>PlOk E q∧p.met≤q.met) l p (fun v hv q hq=> ?_) ⟨h,Nat.le_refl _⟩
  have hk:=nG (mk:=mk) hE (f:=f+1) hq.1 (hl v hv)
  refine ⟨⟨hk.1,Nat.le_trans hq.2 hk.2⟩,?_⟩
  by_cases hn:newP E q v=true
  ·rw [oneP,oneP,if_pos hn,if_pos hn]
   exact ih _ _ (hq.1.meet fun e=>by have:=hl v hv e;omega) (hE _ (jZ (hl v hv) hn)) (by rw [jA hn];have:=hq.2;omega)
  ·rw [oneP,oneP,if_neg hn,if_neg hn]
def iC (E:PlE) (mk:Bool) (f:Nat) (p:PlD) (st:List (List (Int×Int))):PlD:=st.foldl (fun p l=>deepP E mk f p l) p
theorem uU (hE:E.Ok) {st:List (List (Int×Int))} {f:Nat} (h:PlOk E p) (hv:v.1=2→0≤v.2∧v.2 < E.n) (hf:E.n < f+p.met) (hn:newP E p v=true):
  iC E mk (f+1) p ((v::l)::st)=iC E mk (f+1) (meetP E mk p v) (E.fs v.2.toNat::l::st):=by
 unfold iC
 rw [List.foldl_cons,List.foldl_cons,List.foldl_cons,bu,List.foldl_cons,←bu,oneP,if_pos hn]
 rw [nH hE f (meetP E mk p v) _ (h.meet fun e=>by have:=hv e;omega) (hE _ (jZ hv hn)) (by rw [jA hn];omega)]
theorem uV {st:List (List (Int×Int))} {f:Nat} (hn:newP E p v=false):iC E mk (f+1) p ((v::l)::st)=iC E mk (f+1) (meetP E mk p v) (l::st):=by
 unfold iC
 rw [List.foldl_cons,List.foldl_cons,bu,List.foldl_cons,←bu,oneP,if_neg (by rw [hn];decide)]
theorem uW {st:List (List (Int×Int))} {f:Nat}:iC E mk (f+1) p ([]::st)=iC E mk (f+1) p st:=by
 unfold iC
 rw [List.foldl_cons,bu,List.foldl_nil]
def RefL (l:List (Int×Int)) (i:Nat):Prop:=∃v∈l,v.1=2∧v.2.toNat=i
def PlD.Met (p:PlD) (i:Nat):Prop:=i∈p.small++p.large
inductive Rch (E:PlE) (roots:List (Int×Int)):Nat→Prop
 | root {i:Nat} (h:RefL roots i):Rch E roots i
 | step {i j:Nat} (h:Rch E roots i) (h2:RefL (E.fs i) j):Rch E roots j
structure Grows (E:PlE) (mk:Bool) (l:List (Int×Int)) (p q:PlD) (ds dl:List Nat):Prop where
 small:q.small=p.small++ds
 lk:q.lk=p.lk++List.replicate ds.length mk
 large:q.large=p.large++dl
 pile:q.pile=p.pile++dl
 all:∀i,RefL l i→q.Met i
 own:mk=true→∀i∈ds,∀j,RefL (E.fs i) j→q.Met j
 from_:∀i,i∈ds∨i∈dl→Rch E l i
theorem Grows.met {ds dl:List Nat} (h:Grows E mk l p q ds dl) {i:Nat} (hi:p.Met i):q.Met i:=by
 unfold PlD.Met at*
 rw [h.small,h.large]
 simp only [List.mem_append]at hi⊢
 rcases hi with hi | hi <;>simp [hi]
theorem Grows.nil:Grows E mk [] p p [] []:=⟨by simp,by simp,by simp,by simp,(fun i h=>by obtain ⟨v,h,_⟩:=h;cases h),by simp,by simp⟩
theorem Rch.mono {l l':List (Int×Int)} (h:∀i,RefL l i→Rch E l' i) {i:Nat} (hi:Rch E l i):Rch E l' i:=by
 induction hi with
 | root h1=>exact h _ h1
 | step _ h2 ih=>exact .step ih h2
theorem Grows.trans {l l':List (Int×Int)} {r:PlD} {a b c d:List Nat} (h:Grows E mk l p q a b) (k:Grows E mk l' q r c d):Grows E mk (l++l') p r (a++c) (b++d):=by
 refine ⟨by rw [k.small,h.small,List.append_assoc],?_,by rw [k.large,h.large,List.append_assoc],by rw [k.pile,h.pile,List.append_assoc],?_,?_,?_⟩
 ·rw [k.lk,h.lk,List.append_assoc,List.replicate_append_replicate,List.length_append]
 ·rintro i ⟨v,hv,h1,h2⟩
  rcases List.mem_append.1 hv with hv | hv
  ·exact k.met (h.all i ⟨v,hv,h1,h2⟩)
  ·exact k.all i ⟨v,hv,h1,h2⟩
 ·intro hm i hi j hj
  rcases List.mem_append.1 hi with hi | hi
  ·exact k.met (h.own hm i hi j hj)
  ·exact k.own hm i hi j hj
 ·intro i hi
  have h1:∀j,RefL l j→Rch E (l++l') j:=fun j ⟨v,hv,h⟩=> .root ⟨v,List.mem_append_left _ hv,h⟩
  have h2:∀j,RefL l' j→Rch E (l++l') j:=fun j ⟨v,hv,h⟩=> .root ⟨v,List.mem_append_right _ hv,h⟩
  simp only [List.mem_append]at hi
  rcases hi with (hi | hi) | (hi | hi)
  ·exact (h.from_ i (.inl hi)).mono h1
  ·exact (k.from_ i (.inl hi)).mono h2
  ·exact (h.from_ i (.inr hi)).mono h1
  ·exact (k.from_ i (.inr hi)).mono h2
theorem Grows.one (h:mk=false∨newP E p v=false):∃ds dl,Grows E mk [v] p (meetP E mk p v) ds dl:=by
 unfold meetP
 by_cases hf:p.fresh v=true
 ·obtain ⟨h1,h2⟩:=AQ.1 hf
  rw [if_pos hf]
  have hr:Rch E [v] v.2.toNat:= .root ⟨v,by simp,h1,rfl⟩
  by_cases hl:E.lim < E.sz v.2.toNat
  ·rw [if_pos hl]
   refine ⟨[],[v.2.toNat],by simp [PlD.addL],by simp [PlD.addL],rfl,rfl,?_,by simp,?_⟩
   ·rintro i ⟨u,hu,h3,rfl⟩
    simp at hu;subst hu
    simp [PlD.Met,PlD.addL]
   ·rintro i (hi | hi)
    ·cases hi
    ·simp at hi;subst hi;exact hr
  ·rw [if_neg hl]
   have hm:mk=false:=by
    rcases h with h | h
    ·exact h
    ·rw [newP,hf]at h;simp at h;omega
   refine ⟨[v.2.toNat],[],rfl,rfl,by simp [PlD.addS],by simp [PlD.addS],?_,by simp [hm],?_⟩
   ·rintro i ⟨u,hu,h3,rfl⟩
    simp at hu;subst hu
    simp [PlD.Met,PlD.addS]
   ·rintro i (hi | hi)
    ·simp at hi;subst hi;exact hr
    ·cases hi
 ·rw [if_neg hf]
  refine ⟨[],[],by simp,by simp,by simp,by simp,?_,by simp,by simp⟩
  rintro i ⟨u,hu,h3,rfl⟩
  simp at hu;subst hu
  rw [AQ]at hf
  exact Classical.byContradiction fun hn=>hf ⟨h3,hn⟩
theorem Grows.all_ (p:PlD) (l:List (Int×Int)):∃ds dl,Grows E false l p (allP E false p l) ds dl:=by
 unfold allP
 induction l generalizing p with
 | nil=>exact ⟨[],[],Grows.nil⟩
 | cons v l ih=>
  obtain ⟨a,b,h1⟩:=Grows.one (E:=E) (mk:=false) (p:=p) (v:=v) (.inl rfl)
  obtain ⟨c,d,h2⟩:=ih (meetP E false p v)
  exact ⟨_,_,h1.trans h2⟩
theorem Grows.new (hn:newP E p v=true) {q:PlD} {ds dl:List Nat} (h:Grows E true (E.fs v.2.toNat) (meetP E true p v) q ds dl):Grows E true [v] p q (v.2.toNat::ds) dl:=by
 obtain ⟨hf,hs⟩:=fF.1 hn
 obtain ⟨h1,h2⟩:=AQ.1 hf
 have e:meetP E true p v=p.addS true v.2.toNat (E.sz v.2.toNat):=by rw [meetP,if_pos hf,if_neg oM]
 rw [e]at h
 have hm:q.Met v.2.toNat:=h.met (by simp [PlD.Met,PlD.addS])
 have hr:Rch E [v] v.2.toNat:= .root ⟨v,by simp,h1,rfl⟩
 have h3:∀j,RefL (E.fs v.2.toNat) j→Rch E [v] j:=fun j hj=> .step hr hj
 refine ⟨by rw [h.small];simp [PlD.addS],?_,h.large,h.pile,?_,?_,?_⟩
 ·rw [h.lk];simp [PlD.addS,List.replicate_succ]
 ·rintro i ⟨u,hu,h4,rfl⟩
  simp at hu;subst hu
  exact hm
 ·intro _ i hi j hj
  rcases List.mem_cons.1 hi with rfl | hi
  ·exact h.all j hj
  ·exact h.own rfl i hi j hj
 ·rintro i (hi | hi)
  ·rcases List.mem_cons.1 hi with rfl | hi
   ·exact hr
   ·exact (h.from_ i (.inl hi)).mono h3
  ·exact (h.from_ i (.inr hi)).mono h3
theorem Grows.deep (hE:E.Ok):∀(f:Nat) (p:PlD) (l:List (Int×Int)),PlOk E p→bF E.n l→E.n < f+p.met→∃ds dl,Grows E true l p (deepP E true f p l) ds dl:=by
 intro f
 induction f with
 | zero=>exact fun p l h _ hf=>by have:=h.met_le;omega
 | succ f ih=>
  intro p l
  rw [bu]
  induction l generalizing p with
  | nil=>exact fun _ _ _=>⟨[],[],Grows.nil⟩
  | cons v l ih2=>
   intro h hl hf
   rw [List.foldl_cons]
   have hv:=hl v (List.mem_cons_self ..)
   have hk:=nG (mk:=true) hE (f:=f) h hv
   obtain ⟨c,d,h2⟩:=ih2 (oneP E true f p v) hk.1 (fun u hu=>hl u (List.mem_cons_of_mem _ hu)) oM
   suffices ∃a b,Grows E true [v] p (oneP E true f p v) a b by
    obtain ⟨a,b,h1⟩:=this
    exact ⟨_,_,h1.trans h2⟩
   by_cases hn:newP E p v=true
   ·obtain ⟨a,b,h3⟩:=ih (meetP E true p v) (E.fs v.2.toNat) (h.meet fun e=>by have:=hv e;omega) (hE _ (jZ hv hn)) (by rw [jA hn];omega)
    rw [oneP,if_pos hn]
    exact ⟨_,_,h3.new hn⟩
   ·rw [oneP,if_neg hn]
    exact Grows.one (.inr (by simpa using hn))
theorem aW {α:Type} {l:List α} {i:Nat} {d:α} (h:i < l.length):l.getD i d=l[i]:=by simp [h]
theorem dN {α:Type} {l l':List α} {i:Nat} {d:α} (h:i < l.length):(l++l').getD i d=l.getD i d:=by
 simp [List.getD_eq_getElem?_getD,List.getElem?_append_left h]
theorem eT {α:Type} {l l':List α} {i:Nat} {d:α} (h:l.length≤i):(l++l').getD i d=l'.getD (i - l.length) d:=by
 simp [List.getD_eq_getElem?_getD,List.getElem?_append_right h]
def firstP (p:PlD) (P:Nat→Bool):Option Nat:=(List.range p.small.length).find? fun i=> !p.lk.getD i true && P (p.begins.getD i 0)
def cB (E:PlE) (order:Nat) (p:PlD):Option Nat:=
 if order=2 then (match firstP p (fun b=>decide (b/E.blk=p.begins.getD (p.begins.length - 1) 0/E.blk))with
  | some i=>some i
  | none=>firstP p fun _=>true)
 else firstP p fun _=>true
def lookP (E:PlE) (order:Nat) (p:PlD) (l:List (Int×Int)):PlD:=if order=1 then deepP E true (E.n+1) p l else allP E false p l
def PlD.looked (p:PlD) (i:Nat):PlD:=⟨p.small,p.begins,p.lk.set i true,p.large,p.pile,p.top⟩
def PlD.popped (p:PlD):PlD:=⟨p.small,p.begins,p.lk,p.large,p.pile.dropLast,p.top⟩
def bp (E:PlE) (order:Nat) (p:PlD):Option PlD:=match cB E order p with
 | some i=>some (lookP E order (p.looked i) (E.fs (p.small.getD i 0)))
 | none=>match p.pile.getLast? with
  | none=>none
  | some k=>some (lookP E order p.popped (E.fs k))
def runP (E:PlE) (order:Nat):Nat→PlD→PlD
 | 0,p=>p
 | f+1,p=>match bp E order p with
  | none=>p
  | some q=>runP E order f q
def planP (E:PlE) (order:Nat) (roots:List (Int×Int)):PlD:=runP E order (E.n+1) (lookP E order PlD.new roots)
def eG (E:PlE) (p:PlD):Nat:=(E.n - p.met)+p.lk.countP (fun b=> !b)+p.pile.length
theorem dn {P:Nat→Bool} {i:Nat} (h:firstP p P=some i):i < p.small.length∧p.lk.getD i true=false∧P (p.begins.getD i 0)=true:=by
 have h1:=List.mem_of_find?_eq_some h
 have h2:=List.find?_some h
 simp only [Bool.and_eq_true,Bool.not_eq_true']at h2
 exact ⟨by simpa using h1,h2⟩
theorem jn {P:Nat→Bool} (h:firstP p P=none):∀i,i < p.small.length→P (p.begins.getD i 0)=true→p.lk.getD i true=true:=by
 intro i hi hp
 have:=List.find?_eq_none.1 h i (by simpa using hi)
 simp only [Bool.and_eq_true,Bool.not_eq_true',not_and,hp]at this
 cases hb:p.lk.getD i true
 ·exact absurd (this hb) sM
 ·rfl
theorem gi {o i:Nat} (h:cB E o p=some i):i < p.small.length∧p.lk.getD i true=false:=by
 unfold cB at h
 split at h
 ·split at h
  ·rename_i h1
   injection h with h
   subst h
   exact ⟨(dn h1).1,(dn h1).2.1⟩
  ·exact ⟨(dn h).1,(dn h).2.1⟩
 ·exact ⟨(dn h).1,(dn h).2.1⟩
theorem sC {o:Nat} (h:cB E o p=none):∀i,i < p.small.length→p.lk.getD i true=true:=by
 intro i hi
 unfold cB at h
 split at h
 ·split at h
  ·cases h
  ·exact jn h i hi rfl
 ·exact jn h i hi rfl
structure PlInv (E:PlE) (roots:List (Int×Int)) (p:PlD):Prop where
 ok:PlOk E p
 root:∀i,RefL roots i→p.Met i
 from_:∀i,p.Met i→Rch E roots i
 sm:∀k,k < p.small.length→p.lk.getD k false=true→∀j,RefL (E.fs (p.small.getD k 0)) j→p.Met j
 lg:∀i∈p.large,i∉p.pile→∀j,RefL (E.fs i) j→p.Met j
theorem gj (hE:E.Ok) {o:Nat} (h:PlOk E p) (hl:bF E.n l):PlOk E (lookP E o p l)∧∃ds dl,Grows E (decide (o=1)) l p (lookP E o p l) ds dl:=by
 unfold lookP
 split
 ·rename_i e
  refine ⟨(PlOk.deep hE _ _ _ h hl).1,?_⟩
  rw [decide_eq_true e]
  exact Grows.deep hE _ _ _ h hl oM
 ·rename_i e
  refine ⟨h.all hl,?_⟩
  rw [decide_eq_false e]
  exact Grows.all_ p l
theorem ja (hE:E.Ok) {o:Nat} (h:PlOk E p) (hl:bF E.n l):eG E (lookP E o p l)≤eG E p:=by
 obtain ⟨h1,ds,dl,g⟩:=gj (o:=o) hE h hl
 have h2:=h1.met_le
 have h3:=h.met_le
 unfold eG PlD.met at*
 rw [g.small,g.large,g.lk,g.pile]at*
 simp only [List.length_append,List.countP_append,List.countP_replicate]at*
 split <;>omega
theorem sD {l:List Bool} {i:Nat} (h:l.getD i true=false):(l.set i true).countP (fun b=> !b)+1=l.countP (fun b=> !b):=by
 induction l generalizing i with
 | nil=>simp at h
 | cons b l ih=>
  cases i with
  | zero=>simp at h;subst h;simp
  | succ i=>
   have:=ih (i:=i) (by simpa using h)
   simp only [List.set_cons_succ,List.countP_cons]
   omega
theorem PlOk.lookd (h:PlOk E p) (i:Nat):PlOk E (p.looked i):=⟨h.nd,h.lt,h.bl,by simp [PlD.looked,h.ll],h.pl⟩
theorem PlOk.popd (h:PlOk E p):PlOk E p.popped:=⟨h.nd,h.lt,h.bl,h.ll,fun i hi=>h.pl i ((List.dropLast_subset _) hi)⟩
theorem dX {l:List Nat} {k:Nat} (h:l.getLast?=some k):l=l.dropLast++ [k]:=by
 rw [List.getLast?_eq_some_iff]at h
 obtain ⟨ys,rfl⟩:=h
 simp
theorem gA (hE:E.Ok) {roots:List (Int×Int)} {o:Nat} (h:PlInv E roots p) (hs:bp E o p=some q):PlInv E roots q∧eG E q < eG E p:=by
 unfold bp at hs
 cases hn:cB E o p with
 | some i=>
  rw [hn]at hs
  injection hs with hs
  subst hs
  obtain ⟨h1,h2⟩:=gi hn
  have hm:p.small.getD i 0∈p.small:=by rw [aW h1];exact List.getElem_mem _
  have hM:p.Met (p.small.getD i 0):=List.mem_append_left _ hm
  have hv:=hE _ (h.ok.lt _ hM)
  have hk:=h.ok.lookd i
  have hc:=sD (l:=p.lk) (i:=i) (by rw [aW (by rw [h.ok.ll];exact h1)]at h2⊢;exact h2)
  refine ⟨?_,?_⟩
  ·
   obtain ⟨g1,ds,dl,g⟩:=gj (o:=o) hE hk hv
   have hfrom:∀j,RefL (E.fs (p.small.getD i 0)) j→Rch E roots j:=fun j hj=> .step (h.from_ _ hM) hj
   refine ⟨g1,fun j hj=>g.met (h.root j hj),?_,?_,?_⟩
   ·intro j hj
    have h2:p.Met j∨(j∈ds∨j∈dl):=by
     unfold PlD.Met at*
     rw [g.small,g.large]at hj
     simp only [PlD.looked,List.mem_append]at*
     rcases hj with (hi | hi) | (hi | hi) <;>simp [hi]
    rcases h2 with h2 | h2
    ·exact h.from_ j h2
    ·exact (g.from_ j h2).mono hfrom
   ·intro k hk hb j hj
    rw [g.small]at hk hj
    rw [g.lk]at hb
    simp only [PlD.looked]at hk hj hb
    by_cases hlt:k < p.small.length
    ·rw [dN hlt]at hj
     rw [dN (by simp [h.ok.ll];exact hlt)]at hb
     by_cases e:i=k
     ·subst e
      exact g.all j hj
     ·refine g.met (h.sm k hlt ?_ j hj)
      rw [List.getD_eq_getElem?_getD,List.getElem?_set_ne e]at hb
      rwa [List.getD_eq_getElem?_getD]
    ·simp only [List.length_append]at hk
     rw [eT oM]at hj
     rw [eT (by simp [h.ok.ll];omega)]at hb
     simp only [List.length_set,h.ok.ll]at hb
     have hlt2:k - p.small.length < ds.length:=by omega
     have hm:decide (o=1)=true:=by
      rw [aW (by simpa using hlt2)]at hb
      simpa using hb
     refine g.own hm _ ?_ j hj
     rw [aW hlt2]
     exact List.getElem_mem _
   ·intro i hi hn j hj
    rw [g.large]at hi
    rw [g.pile]at hn
    simp only [PlD.looked,List.mem_append,not_or]at hi hn
    rcases hi with hi | hi
    ·exact g.met (h.lg i hi hn.1 j hj)
    ·exact absurd hi hn.2
  ·refine Nat.lt_of_le_of_lt (ja hE hk hv) ?_
   unfold eG PlD.met PlD.looked
   simp only
   omega
 | none=>
  rw [hn]at hs
  cases hp:p.pile.getLast? with
  | none=>rw [hp]at hs;cases hs
  | some k=>
   rw [hp]at hs
   injection hs with hs
   subst hs
   have e:=dX hp
   have hl:k∈p.large:=h.ok.pl k (by rw [e];simp)
   have hM:p.Met k:=List.mem_append_right _ hl
   have hv:=hE _ (h.ok.lt _ hM)
   refine ⟨?_,?_⟩
   ·obtain ⟨g1,ds,dl,g⟩:=gj (o:=o) hE h.ok.popd hv
    have hfrom:∀j,RefL (E.fs k) j→Rch E roots j:=fun j hj=> .step (h.from_ _ hM) hj
    refine ⟨g1,fun j hj=>g.met (h.root j hj),?_,?_,?_⟩
    ·intro j hj
     have h2:p.Met j∨(j∈ds∨j∈dl):=by
      unfold PlD.Met at*
      rw [g.small,g.large]at hj
      simp only [PlD.popped,List.mem_append]at*
      rcases hj with (hi | hi) | (hi | hi) <;>simp [hi]
     rcases h2 with h2 | h2
     ·exact h.from_ j h2
     ·exact (g.from_ j h2).mono hfrom
    ·intro k hk hb j hj
     rw [g.small]at hk hj
     rw [g.lk]at hb
     simp only [PlD.popped]at hk hj hb
     by_cases hlt:k < p.small.length
     ·rw [dN hlt]at hj
      rw [dN (by simp [h.ok.ll];exact hlt)]at hb
      exact g.met (h.sm k hlt hb j hj)
     ·simp only [List.length_append]at hk
      rw [eT oM]at hj
      rw [eT (by simp [h.ok.ll];omega),h.ok.ll]at hb
      have hlt2:k - p.small.length < ds.length:=by omega
      have hm:decide (o=1)=true:=by
       rw [aW (by simpa using hlt2)]at hb
       simpa using hb
      refine g.own hm _ ?_ j hj
      rw [aW hlt2]
      exact List.getElem_mem _
    ·intro i hi hn j hj
     rw [g.large]at hi
     rw [g.pile]at hn
     simp only [PlD.popped,List.mem_append,not_or]at hi hn
     rcases hi with hi | hi
     ·by_cases e2:i=k
      ·subst e2
       exact g.all j hj
      ·refine g.met (h.lg i hi ?_ j hj)
       rw [e]
       simp only [List.mem_append,List.mem_singleton,not_or]
       exact ⟨hn.1,e2⟩
     ·exact absurd hi hn.2
   ·refine Nat.lt_of_le_of_lt (ja hE h.ok.popd hv) ?_
    have:p.pile.length=p.pile.dropLast.length+1:=by rw [e];simp
    unfold eG PlD.met PlD.popped
    simp only
    omega
theorem tJ (hE:E.Ok) {roots:List (Int×Int)} {o:Nat}:∀(f:Nat) (p:PlD),PlInv E roots p→eG E p < f→PlInv E roots (runP E o f p)∧bp E o (runP E o f p)=none:=by
 intro f
 induction f with
 | zero=>exact fun p _ h=>by omega
 | succ f ih=>
  intro p h hf
  rw [runP]
  cases hs:bp E o p with
  | none=>exact ⟨h,hs⟩
  | some q=>
   obtain ⟨h1,h2⟩:=gA hE h hs
   exact ih q h1 oM
theorem jB (hE:E.Ok) {roots:List (Int×Int)} {o:Nat} (hr:bF E.n roots):PlInv E roots (lookP E o PlD.new roots)∧eG E (lookP E o PlD.new roots) < E.n+1:=by
 obtain ⟨h1,ds,dl,g⟩:=gj (o:=o) hE (PlOk.new (E:=E)) hr
 refine ⟨⟨h1,g.all,?_,?_,?_⟩,?_⟩
 ·intro i hi
  unfold PlD.Met at hi
  rw [g.small,g.large]at hi
  exact g.from_ i (by simpa [PlD.new]using hi)
 ·intro k hk hb j hj
  rw [g.small]at hk hj
  rw [g.lk]at hb
  simp only [PlD.new,List.nil_append]at hk hj hb
  have hm:decide (o=1)=true:=by
   rw [aW (by simpa using hk)]at hb
   simpa using hb
  refine g.own hm _ ?_ j hj
  rw [aW hk]
  exact List.getElem_mem _
 ·intro i hi hn j hj
  rw [g.large]at hi
  rw [g.pile]at hn
  exact absurd hi hn
 ·refine Nat.lt_of_le_of_lt (ja hE PlOk.new hr) ?_
  simp [eG,PlD.new,PlD.met]
theorem l8 (hE:E.Ok) {roots:List (Int×Int)} (o:Nat) (hr:bF E.n roots):PlOk E (planP E o roots)∧∀i,(planP E o roots).Met i↔Rch E roots i:=by
 obtain ⟨h1,h2⟩:=jB (o:=o) hE hr
 obtain ⟨h3,h4⟩:=tJ (o:=o) hE (E.n+1) _ h1 h2
 change PlInv E roots (planP E o roots)at h3
 change bp E o (planP E o roots)=none at h4
 generalize planP E o roots=p at*
 refine ⟨h3.ok,fun i=>⟨h3.from_ i,fun hi=> ?_⟩⟩
 unfold bp at h4
 cases hn:cB E o p with
 | some i=>rw [hn]at h4;cases h4
 | none=>
  rw [hn]at h4
  cases hp:p.pile.getLast? with
  | some k=>rw [hp]at h4;cases h4
  | none=>
   have hpe:p.pile= []:=List.getLast?_eq_none_iff.1 hp
   have hlk:=sC hn
   induction hi with
   | root h=>exact h3.root _ h
   | @step i j _ hj ih=>
    unfold PlD.Met at ih
    rcases List.mem_append.1 ih with ih | ih
    ·obtain ⟨k,hk,rfl⟩:=List.getElem_of_mem ih
     have h5:=hlk k hk
     refine h3.sm k hk ?_ j (by rw [aW hk];exact hj)
     rw [aW (by rw [h3.ok.ll];exact hk)]at h5⊢
     exact h5
    ·exact h3.lg i ih (by rw [hpe];simp) j hj
end
end Go.Proofs.YtphpppjfogpohaaGreat
