/- Merged by program (merge.py) out of: Law03C, Law03D, ExtG, ExtH. -/
import Derived.Test.YtemmjmplhknemaaMp11
import Derived.Deep.SlicePairs
import Derived.Test.YtemmjmplhknemaaMp5
import Derived.Test.YtemmjmplhknemaaMp12
set_option linter.unusedSimpArgs false
set_option linter.unusedVariables false
set_option maxRecDepth 100000
set_option maxHeartbeats 16000000
namespace Go.Proofs.Ytemmjmplhknemaa
open Go.RowKit
theorem gap_may {a s:Int} {xs zs:List (Int×Int)} (h:GapsOf a s xs zs) {z:Int×Int} (hz:z∈zs):mayB z.1 z.2=true:=by
 have h1:=h.pos z hz
 obtain ⟨hm,h2,_⟩:=hasB_iff.1 ((h.mem z.1).1 ⟨z,hz,by omega,by omega⟩).1
 obtain ⟨_,_,h3⟩:=hasB_iff.1 ((h.mem (z.1+z.2 - 1)).1 ⟨z,hz,by omega,by omega⟩).1
 have:=may_bd hm
 simp only [mayB,decide_eq_true_eq]
 omega
end Go.Proofs.Ytemmjmplhknemaa
namespace Go.Proofs.Ytemmjmplhknemaa
open Go.RowKit Go.Shelf
section
variable {n : Int} {xs ys : List (Int × Int)} {p er a0 s0 a s : Int} {pre post : List (Int × Int)}
theorem within_iff {a s c d:Int}:withinB a s c d=true↔mayB a s=true∧mayB c d=true∧c≤a∧a+s≤c+d:=by
 simp [withinB,and_assoc]
end
end Go.Proofs.Ytemmjmplhknemaa
