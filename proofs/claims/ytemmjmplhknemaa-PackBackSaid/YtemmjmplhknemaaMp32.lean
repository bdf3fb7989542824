/- Merged by program (merge.py) out of: LedK, LedL, LedM, LedN. -/
import Derived.Test.YtemmjmplhknemaaMp14
import Derived.Test.YtemmjmplhknemaaMp31
import Derived.Test.YtemmjmplhknemaaMp12
import Derived.Deep.SlicePairs
import Derived.Test.YtemmjmplhknemaaMp5
set_option linter.unusedSimpArgs false
set_option linter.unusedVariables false
set_option maxRecDepth 100000
set_option maxHeartbeats 16000000
namespace Go.Proofs.Ytemmjmplhknemaa
open Go.RowKit Go.Shelf
theorem chain_iff {xs:List (Int×Int)}:chainB xs=true↔(∀x∈xs,mayB x.1 x.2=true)∧xs.Pairwise fun x y=>x.1+x.2≤y.1:=by
 constructor
 ·intro h
  have h2:=of_decide_eq_true h
  have hm:∀x∈xs,mayB x.1 x.2=true:=by
   intro x hx
   obtain ⟨i,hi,rfl⟩:=List.getElem_of_mem hx
   simpa [List.getElem?_eq_getElem hi]using (h2 i hi).1
  refine ⟨hm,?_⟩
  have key:∀d i,i+d+1 < xs.length→(xs.getD i (0,0)).1+(xs.getD i (0,0)).2≤(xs.getD (i+d+1) (0,0)).1:=by
   intro d
   induction d with
   | zero=>intro i hi;exact (h2 (i+0+1) hi).2 i (by omega) rfl
   | succ d ih=>
    intro i hi
    have h3:=ih i (by omega)
    have h4:=(h2 (i+d+1+1) (by omega)).2 (i+d+1) (by omega) rfl
    have h5:=may_bd (h2 (i+d+1) (by omega)).1
    rw [show i+(d+1)+1=i+d+1+1 from by omega]
    omega
  rw [List.pairwise_iff_getElem]
  intro i j hi hj hij
  have:=key (j - i - 1) i (by omega)
  rw [show i+(j - i - 1)+1=j from by omega]at this
  simpa [List.getElem?_eq_getElem hi,List.getElem?_eq_getElem hj]using this
 ·rintro ⟨h1,h2⟩
  rw [List.pairwise_iff_getElem]at h2
  refine chain_yes fun i hi=>⟨?_,fun j hj he=> ?_⟩
  ·have:=h1 xs[i] (List.getElem_mem hi)
   simpa [List.getElem?_eq_getElem hi]using this
  ·have:=h2 j i (by omega) hi hj
   simpa [List.getElem?_eq_getElem hi,List.getElem?_eq_getElem (show j < xs.length by omega)]using this
theorem ledR_iff {a s:Int} {xs fs:List (Int×Int)}:ledR a s xs fs=true↔ledB a s xs=true∧GapsOf a s xs fs:=by
 unfold ledR
 rw [Bool.and_eq_true]
 simp only [decide_eq_true_eq]
theorem has_iff {a s p:Int}:hasB a s p=true↔mayB a s=true∧a≤p∧p < a+s:=by simp [hasB]
theorem gap_within {a s:Int} {xs fs:List (Int×Int)} (h:GapsOf a s xs fs) {z:Int×Int} (hz:z∈fs):withinB z.1 z.2 a s=true:=by
 have hm:=gap_may h hz
 obtain ⟨m1,m2,m3,m4⟩:=may_bd hm
 have h1:=((h.mem z.1).1 ⟨z,hz,by unfold InS;omega⟩).1
 have h2:=((h.mem (z.1+z.2 - 1)).1 ⟨z,hz,by unfold InS;omega⟩).1
 rw [has_iff]at h1 h2
 exact within_iff.2 ⟨hm,h1.1,by omega,by omega⟩
end Go.Proofs.Ytemmjmplhknemaa
