/- Merged by program (merge.py) out of: SpanSpec, SegSpec. -/
set_option linter.unusedSimpArgs false
set_option linter.unusedVariables false
set_option maxRecDepth 100000
set_option maxHeartbeats 16000000
namespace Go.Proofs.Ytemmjmplhknemaa
def leS (x y:Int×Int):Bool:=decide (x.1 < y.1) || (decide (x.1=y.1) && decide (x.2≤y.2))
theorem leS_iff {x y:Int×Int}:leS x y=true↔x.1 < y.1∨(x.1=y.1∧x.2≤y.2):=by simp [leS]
theorem leS_trans (x y z:Int×Int) (h:leS x y=true) (k:leS y z=true):leS x z=true:=by rw [leS_iff]at*;omega
theorem leS_total (x y:Int×Int):(leS x y || leS y x)=true:=by
 rw [Bool.or_eq_true,leS_iff,leS_iff];omega
theorem leS_antisymm {x y:Int×Int} (h:leS x y=true) (k:leS y x=true):x=y:=by
 rw [leS_iff]at*
 exact Prod.ext (by omega) (by omega)
def sortS (l:List (Int×Int)):List (Int×Int):=l.mergeSort leS
theorem sortS_perm (l:List (Int×Int)):(sortS l).Perm l:=List.mergeSort_perm l leS
theorem sortS_sorted (l:List (Int×Int)):(sortS l).Pairwise (fun x y=>leS x y=true):=List.pairwise_mergeSort leS_trans leS_total l
theorem sortS_unique {l z:List (Int×Int)} (hp:z.Perm l) (hs:z.Pairwise (fun x y=>leS x y=true)):z=sortS l:=
 List.Perm.eq_of_pairwise (fun _ _ _ _ h k=>leS_antisymm h k) hs (sortS_sorted l) (hp.trans (sortS_perm l).symm)
theorem sortS_length (l:List (Int×Int)):(sortS l).length=l.length:=(sortS_perm l).length_eq
theorem sortS_mem {l:List (Int×Int)} {x:Int×Int}:x∈sortS l↔x∈l:=(sortS_perm l).mem_iff
abbrev gt (xs:List (Int×Int)) (i:Nat):Int×Int:=xs.getD i (0,0)
theorem gt_eq {xs:List (Int×Int)} {i:Nat} (h:i < xs.length):gt xs i=xs[i]:=by simp [gt,List.getD,List.getElem?_eq_getElem h]
def swapL (xs:List (Int×Int)) (i j:Nat):List (Int×Int):=(xs.set i (gt xs j)).set j (gt xs i)
theorem swapL_length (xs:List (Int×Int)) (i j:Nat):(swapL xs i j).length=xs.length:=by simp [swapL]
theorem swapL_perm {xs:List (Int×Int)} {i j:Nat} (hi:i < xs.length) (hj:j < xs.length):(swapL xs i j).Perm xs:=by
 have:=Array.swap_perm (xs:=xs.toArray) (i:=i) (j:=j) (by simpa using hi) (by simpa using hj)
 rw [Array.perm_iff_toList_perm,Array.toList_swap]at this
 unfold swapL
 rw [gt_eq hi,gt_eq hj]
 simpa using this
theorem gt_swap {xs:List (Int×Int)} {i j k:Nat} (hi:i < xs.length) (hj:j < xs.length):gt (swapL xs i j) k=if k=j then gt xs i else if k=i then gt xs j else gt xs k:=by
 unfold swapL gt
 simp only [List.getD_eq_getElem?_getD,List.getElem?_set,List.length_set]
 by_cases h1:j=k
 ·subst h1;simp [hj]
 ·by_cases h2:i=k
  ·subst h2;simp [h1,hi,Ne.symm h1]
  ·simp [h1,h2,Ne.symm h1,Ne.symm h2]
structure Seg (a b:Nat) (xs ys:List (Int×Int)):Prop where
 len:ys.length=xs.length
 out:∀i,i < a∨b≤i→gt ys i=gt xs i
 perm:ys.Perm xs
 sub:∀i,a≤i→i < b→∃j,a≤j∧j < b∧gt ys i=gt xs j
theorem Seg.refl (a b:Nat) (xs:List (Int×Int)):Seg a b xs xs:=⟨rfl,fun _ _=>rfl,List.Perm.refl _,fun i h1 h2=>⟨i,h1,h2,rfl⟩⟩
theorem Seg.trans {a b:Nat} {xs ys zs:List (Int×Int)} (h:Seg a b xs ys) (k:Seg a b ys zs):Seg a b xs zs:=
 ⟨k.len.trans h.len,fun i hi=>(k.out i hi).trans (h.out i hi),k.perm.trans h.perm,fun i h1 h2=>by
  obtain ⟨j,j1,j2,e⟩:=k.sub i h1 h2
  obtain ⟨l,l1,l2,e2⟩:=h.sub j j1 j2
  exact ⟨l,l1,l2,e.trans e2⟩⟩
theorem Seg.mono {a b a' b':Nat} {xs ys:List (Int×Int)} (h:Seg a b xs ys) (ha:a'≤a) (hb:b≤b'):Seg a' b' xs ys:=
 ⟨h.len,fun i hi=>h.out i (by omega),h.perm,fun i h1 h2=>by
  by_cases hc:a≤i∧i < b
  ·obtain ⟨j,j1,j2,e⟩:=h.sub i hc.1 hc.2;exact ⟨j,by omega,by omega,e⟩
  ·exact ⟨i,h1,h2,h.out i (by omega)⟩⟩
theorem Seg.swap {a b i j:Nat} {xs:List (Int×Int)} (hb:b≤xs.length) (hi:a≤i∧i < b) (hj:a≤j∧j < b):Seg a b xs (swapL xs i j):=by
 have h1:i < xs.length:=by omega
 have h2:j < xs.length:=by omega
 refine ⟨swapL_length _ _ _,fun k hk=> ?_,swapL_perm h1 h2,fun k k1 k2=> ?_⟩
 ·rw [gt_swap h1 h2,if_neg (by omega),if_neg (by omega)]
 ·rw [gt_swap h1 h2]
  split
  ·exact ⟨i,hi.1,hi.2,rfl⟩
  ·split
   ·exact ⟨j,hj.1,hj.2,rfl⟩
   ·exact ⟨k,k1,k2,rfl⟩
def Ordered (a b:Nat) (xs:List (Int×Int)):Prop:=∀i j,a≤i→i < j→j < b→leS (gt xs i) (gt xs j)=true
theorem Ordered.le {a b:Nat} {xs:List (Int×Int)} (h:Ordered a b xs) {i j:Nat} (h1:a≤i) (h2:i≤j) (h3:j < b):leS (gt xs i) (gt xs j)=true:=by
 rcases Nat.lt_or_ge i j with h4 | h4
 ·exact h i j h1 h4 h3
 ·have:i=j:=by omega
  subst this;rw [leS_iff];omega
theorem Ordered.sub {a b a' b':Nat} {xs:List (Int×Int)} (h:Ordered a b xs) (ha:a≤a') (hb:b'≤b):Ordered a' b' xs:=fun i j h1 h2 h3=>h i j (by omega) h2 (by omega)
theorem Ordered.congr {a b:Nat} {xs ys:List (Int×Int)} (h:Ordered a b xs) (e:∀i,a≤i→i < b→gt ys i=gt xs i):Ordered a b ys:=fun i j h1 h2 h3=>by
 rw [e i h1 (by omega),e j (by omega) h3];exact h i j h1 h2 h3
theorem Ordered.join {a m b:Nat} {xs:List (Int×Int)} (h:Ordered a m xs) (k:Ordered m b xs) (hm:∀i j,a≤i→i < m→m≤j→j < b→leS (gt xs i) (gt xs j)=true):Ordered a b xs:=fun i j h1 h2 h3=>by
 rcases Nat.lt_or_ge j m with c | c
 ·exact h i j h1 h2 c
 ·rcases Nat.lt_or_ge i m with d | d
  ·exact hm i j h1 d c h3
  ·exact k i j d h2 h3
def Almost (a j k:Nat) (xs:List (Int×Int)):Prop:=∀p q,a≤p→p < q→q≤k→q≠j→leS (gt xs p) (gt xs q)=true
theorem Almost.start {a k:Nat} {xs:List (Int×Int)} (h:Ordered a k xs):Almost a k k xs:=fun p q h1 h2 h3 h4=>h p q h1 h2 (by omega)
theorem Almost.step {a j k:Nat} {xs:List (Int×Int)} (h:Almost a (j+1) k xs) (hk:k < xs.length) (hj:j+1≤k) (haj:a≤j) (hlt:leS (gt xs (j+1)) (gt xs j)=true):Almost a j k (swapL xs (j+1) j):=by
 intro p q h1 h2 h3 h4
 rw [gt_swap (by omega) (by omega),gt_swap (by omega) (by omega)]
 rw [if_neg h4]
 by_cases hq:q=j+1
 ·rw [if_pos hq,if_neg (by omega:¬p=j+1)]
  by_cases hp:p=j
  ·rw [if_pos hp];exact hlt
  ·rw [if_neg hp];exact h p j h1 (by omega) (by omega) (by omega)
 ·rw [if_neg hq]
  by_cases hp:p=j
  ·rw [if_pos hp];exact h (j+1) q (by omega) (by omega) h3 (by omega)
  ·rw [if_neg hp]
   by_cases hp2:p=j+1
   ·rw [if_pos hp2];exact h j q (by omega) (by omega) h3 (by omega)
   ·rw [if_neg hp2];exact h p q h1 h2 h3 (by omega)
theorem Almost.atStart {a k:Nat} {xs:List (Int×Int)} (h:Almost a a k xs):Ordered a (k+1) xs:=fun p q h1 h2 h3=>h p q h1 h2 (by omega) (by omega)
theorem Almost.stop {a j k:Nat} {xs:List (Int×Int)} (h:Almost a (j+1) k xs) (hj:j+1≤k) (hle:leS (gt xs j) (gt xs (j+1))=true):Ordered a (k+1) xs:=fun p q h1 h2 h3=>by
 by_cases hq:q=j+1
 ·subst hq
  by_cases hp:p=j
  ·subst hp;exact hle
  ·exact leS_trans _ _ _ (h p j h1 (by omega) (by omega) (by omega)) hle
 ·exact h p q h1 h2 (by omega) hq
theorem leS_of_not {x y:Int×Int} (h:¬leS x y=true):leS y x=true:=by rw [leS_iff]at*;omega
end Go.Proofs.Ytemmjmplhknemaa
