/- Merged by program (merge.py) out of: SpanSpec, SegSpec. -/
import Derived.Test.YtphpppjfogpohaaGreatMy0
set_option linter.unusedSimpArgs false
set_option linter.unusedVariables false
set_option maxRecDepth 100000
set_option maxHeartbeats 16000000
namespace Go.Proofs.YtphpppjfogpohaaGreat
def leS (x y:Int×Int):Bool:=decide (x.1 < y.1) || (decide (x.1=y.1) && decide (x.2≤y.2))
theorem cA {x y:Int×Int}:leS x y=true↔x.1 < y.1∨(x.1=y.1∧x.2≤y.2):=by simp [leS]
theorem cD (x y z:Int×Int) (h:leS x y=true) (k:leS y z=true):leS x z=true:=by rw [cA]at*;omega
theorem tk (x y:Int×Int):(leS x y || leS y x)=true:=by
 rw [Bool.or_eq_true,cA,cA];omega
theorem oR {x y:Int×Int} (h:leS x y=true) (k:leS y x=true):x=y:=by
 rw [cA]at*
 exact Prod.ext oM oM
def sortS (l:List (Int×Int)):List (Int×Int):=l.mergeSort leS
theorem gM (l:List (Int×Int)):(sortS l).Perm l:=List.mergeSort_perm l leS
theorem dw (l:List (Int×Int)):(sortS l).Pairwise (fun x y=>leS x y=true):=List.pairwise_mergeSort cD tk l
theorem gN {l z:List (Int×Int)} (hp:z.Perm l) (hs:z.Pairwise (fun x y=>leS x y=true)):z=sortS l:=
 List.Perm.eq_of_pairwise (fun _ _ _ _ h k=>oR h k) hs (dw l) (hp.trans (gM l).symm)
theorem gO (l:List (Int×Int)):(sortS l).length=l.length:=(gM l).length_eq
theorem fh {l:List (Int×Int)} {x:Int×Int}:x∈sortS l↔x∈l:=(gM l).mem_iff
theorem iX {ys:List (Int×Int)} {x:Int×Int} {m:Nat} (hs:ys.Pairwise (fun x y=>leS x y=true)) (hm:m≤ys.length)
  (hlo:∀i,i < m→i+1=m→leS (ys.getD i (0,0)) x=true) (hhi:∀i,m≤i→i < ys.length→leS x (ys.getD i (0,0))=true):
  (ys.take m++ [x]++ys.drop m).Pairwise (fun x y=>leS x y=true)∧(ys.take m++ [x]++ys.drop m).Perm (ys++ [x]):=by
 constructor
 ·have hs':=hs
  rw [←List.take_append_drop m ys,List.pairwise_append]at hs'
  obtain ⟨h1,h2,h3⟩:=hs'
  have hlo':∀a∈ys.take m,leS a x=true:=by
   intro a ha
   obtain ⟨i,hi,rfl⟩:=List.getElem_of_mem ha
   have him:i < m:=by simp at hi;omega
   have hl:=hlo (m - 1) oM oM
   have e1:ys.getD (m - 1) (0,0)=ys[m - 1]'oM:=by simp [List.getD,List.getElem?_eq_getElem (show m - 1 < ys.length by omega)]
   rw [e1]at hl
   rw [List.getElem_take]
   rcases Nat.lt_or_ge i (m - 1)with h | h
   ·exact cD _ _ _ (List.pairwise_iff_getElem.1 hs i (m - 1) oM oM h) hl
   ·have:i=m - 1:=by omega
    subst this;exact hl
  have hhi':∀b∈ys.drop m,leS x b=true:=by
   intro b hb
   obtain ⟨i,hi,rfl⟩:=List.getElem_of_mem hb
   have hi':m+i < ys.length:=by simp at hi;omega
   have:=hhi (m+i) oM hi'
   rw [List.getElem_drop]
   simpa [List.getD,List.getElem?_eq_getElem hi']using this
  rw [List.append_assoc,List.pairwise_append]
  refine ⟨h1,?_,?_⟩
  ·rw [List.singleton_append,List.pairwise_cons]
   exact ⟨hhi',h2⟩
  ·intro a ha b hb
   rw [List.singleton_append,List.mem_cons]at hb
   rcases hb with rfl | hb
   ·exact hlo' a ha
   ·exact h3 a ha b hb
 ·rw [List.append_assoc,List.singleton_append]
  refine List.perm_middle.trans ?_
  rw [List.take_append_drop]
  exact (List.perm_append_singleton x ys).symm
abbrev gt (xs:List (Int×Int)) (i:Nat):Int×Int:=xs.getD i (0,0)
theorem vU {xs:List (Int×Int)} {i:Nat} (h:i < xs.length):gt xs i=xs[i]:=by simp [gt,List.getD,List.getElem?_eq_getElem h]
def eK (xs:List (Int×Int)) (i j:Nat):List (Int×Int):=(xs.set i (gt xs j)).set j (gt xs i)
theorem dx (xs:List (Int×Int)) (i j:Nat):(eK xs i j).length=xs.length:=by simp [eK]
theorem rR {xs:List (Int×Int)} {i j:Nat} (hi:i < xs.length) (hj:j < xs.length):(eK xs i j).Perm xs:=by
 have:=Array.swap_perm (xs:=xs.toArray) (i:=i) (j:=j) (by simpa using hi) (by simpa using hj)
 rw [Array.perm_iff_toList_perm,Array.toList_swap]at this
 unfold eK
 rw [vU hi,vU hj]
 simpa using this
theorem gP {xs:List (Int×Int)} {i j k:Nat} (hi:i < xs.length) (hj:j < xs.length):gt (eK xs i j) k=if k=j then gt xs i else if k=i then gt xs j else gt xs k:=by
 unfold eK gt
 simp only [List.getD_eq_getElem?_getD,List.getElem?_set,List.length_set]
 by_cases h1:j=k
 ·subst h1;simp [hj]
 ·by_cases h2:i=k
  ·subst h2;simp [h1,hi,Ne.symm h1]
  ·simp [h1,h2,Ne.symm h1,Ne.symm h2]
structure Seg (a b:Nat) (xs ys:List (Int×Int)):Prop where
 len:ys.length=xs.length
 out:∀i,i < a∨b≤i→gt ys i=gt xs i
 perm:ys.Perm xs
 sub:∀i,a≤i→i < b→∃j,a≤j∧j < b∧gt ys i=gt xs j
theorem Seg.refl (a b:Nat) (xs:List (Int×Int)):Seg a b xs xs:=⟨rfl,fun _ _=>rfl,List.Perm.refl _,fun i h1 h2=>⟨i,h1,h2,rfl⟩⟩
abbrev AF := @Seg.refl
theorem Seg.trans {a b:Nat} {xs ys zs:List (Int×Int)} (h:Seg a b xs ys) (k:Seg a b ys zs):Seg a b xs zs:=
 ⟨k.len.trans h.len,fun i hi=>(k.out i hi).trans (h.out i hi),k.perm.trans h.perm,fun i h1 h2=>by
  obtain ⟨j,j1,j2,e⟩:=k.sub i h1 h2
  obtain ⟨l,l1,l2,e2⟩:=h.sub j j1 j2
  exact ⟨l,l1,l2,e.trans e2⟩⟩
theorem Seg.mono {a b a' b':Nat} {xs ys:List (Int×Int)} (h:Seg a b xs ys) (ha:a'≤a) (hb:b≤b'):Seg a' b' xs ys:=
 ⟨h.len,fun i hi=>h.out i oM,h.perm,fun i h1 h2=>by
  by_cases hc:a≤i∧i < b
  ·obtain ⟨j,j1,j2,e⟩:=h.sub i hc.1 hc.2;exact ⟨j,by omega,by omega,e⟩
  ·exact ⟨i,h1,h2,h.out i oM⟩⟩
theorem Seg.swap {a b i j:Nat} {xs:List (Int×Int)} (hb:b≤xs.length) (hi:a≤i∧i < b) (hj:a≤j∧j < b):Seg a b xs (eK xs i j):=by
 have h1:i < xs.length:=by omega
 have h2:j < xs.length:=by omega
 refine ⟨dx _ _ _,fun k hk=> ?_,rR h1 h2,fun k k1 k2=> ?_⟩
 ·rw [gP h1 h2,if_neg oM,if_neg oM]
 ·rw [gP h1 h2]
  split
  ·exact ⟨i,hi.1,hi.2,rfl⟩
  ·split
   ·exact ⟨j,hj.1,hj.2,rfl⟩
   ·exact ⟨k,k1,k2,rfl⟩
def Ordered (a b:Nat) (xs:List (Int×Int)):Prop:=∀i j,a≤i→i < j→j < b→leS (gt xs i) (gt xs j)=true
theorem Ordered.le {a b:Nat} {xs:List (Int×Int)} (h:Ordered a b xs) {i j:Nat} (h1:a≤i) (h2:i≤j) (h3:j < b):leS (gt xs i) (gt xs j)=true:=by
 rcases Nat.lt_or_ge i j with h4 | h4
 ·exact h i j h1 h4 h3
 ·have:i=j:=by omega
  subst this;rw [cA];omega
theorem Ordered.sub {a b a' b':Nat} {xs:List (Int×Int)} (h:Ordered a b xs) (ha:a≤a') (hb:b'≤b):Ordered a' b' xs:=fun i j h1 h2 h3=>h i j oM h2 oM
theorem Ordered.congr {a b:Nat} {xs ys:List (Int×Int)} (h:Ordered a b xs) (e:∀i,a≤i→i < b→gt ys i=gt xs i):Ordered a b ys:=fun i j h1 h2 h3=>by
 rw [e i h1 oM,e j oM h3];exact h i j h1 h2 h3
theorem Ordered.join {a m b:Nat} {xs:List (Int×Int)} (h:Ordered a m xs) (k:Ordered m b xs) (hm:∀i j,a≤i→i < m→m≤j→j < b→leS (gt xs i) (gt xs j)=true):Ordered a b xs:=fun i j h1 h2 h3=>by
 rcases Nat.lt_or_ge j m with c | c
 ·exact h i j h1 h2 c
 ·rcases Nat.lt_or_ge i m with d | d
  ·exact hm i j h1 d c h3
  ·exact k i j d h2 h3
def Almost (a j k:Nat) (xs:List (Int×Int)):Prop:=∀p q,a≤p→p < q→q≤k→q≠j→leS (gt xs p) (gt xs q)=true
theorem Almost.start {a k:Nat} {xs:List (Int×Int)} (h:Ordered a k xs):Almost a k k xs:=fun p q h1 h2 h3 h4=>h p q h1 h2 oM
theorem Almost.step {a j k:Nat} {xs:List (Int×Int)} (h:Almost a (j+1) k xs) (hk:k < xs.length) (hj:j+1≤k) (haj:a≤j) (hlt:leS (gt xs (j+1)) (gt xs j)=true):Almost a j k (eK xs (j+1) j):=by
 intro p q h1 h2 h3 h4
 rw [gP oM oM,gP oM oM]
 rw [if_neg h4]
 by_cases hq:q=j+1
 ·rw [if_pos hq,if_neg (by omega:¬p=j+1)]
  by_cases hp:p=j
  ·rw [if_pos hp];exact hlt
  ·rw [if_neg hp];exact h p j h1 oM oM oM
 ·rw [if_neg hq]
  by_cases hp:p=j
  ·rw [if_pos hp];exact h (j+1) q oM oM h3 oM
  ·rw [if_neg hp]
   by_cases hp2:p=j+1
   ·rw [if_pos hp2];exact h j q oM oM h3 oM
   ·rw [if_neg hp2];exact h p q h1 h2 h3 oM
theorem Almost.atStart {a k:Nat} {xs:List (Int×Int)} (h:Almost a a k xs):Ordered a (k+1) xs:=fun p q h1 h2 h3=>h p q h1 h2 oM oM
theorem Almost.stop {a j k:Nat} {xs:List (Int×Int)} (h:Almost a (j+1) k xs) (hj:j+1≤k) (hle:leS (gt xs j) (gt xs (j+1))=true):Ordered a (k+1) xs:=fun p q h1 h2 h3=>by
 by_cases hq:q=j+1
 ·subst hq
  by_cases hp:p=j
  ·subst hp;exact hle
  ·exact cD _ _ _ (h p j h1 oM oM oM) hle
 ·exact h p q h1 h2 oM hq
theorem rS {x y:Int×Int} (h:¬leS x y=true):leS y x=true:=by rw [cA]at*;omega
end Go.Proofs.YtphpppjfogpohaaGreat
