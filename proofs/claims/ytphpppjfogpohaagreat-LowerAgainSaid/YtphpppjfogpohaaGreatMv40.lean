/- Merged by program (merge.py) out of: Law03C, Law03D, ExtG, ExtH. -/
import Derived.Test.YtphpppjfogpohaaGreatMv14
import Derived.Deep.SlicePairs
import Derived.Test.YtphpppjfogpohaaGreatMv5
set_option linter.unusedSimpArgs false
set_option linter.unusedVariables false
set_option maxRecDepth 100000
set_option maxHeartbeats 16000000
namespace Go.Proofs.YtphpppjfogpohaaGreat
open Go.RowKit
end Go.Proofs.YtphpppjfogpohaaGreat
namespace Go.Proofs.YtphpppjfogpohaaGreat
open Go.RowKit Go.Shelf
theorem join_self {xs:List (Int×Int)} (h1:∀x∈xs,mayB x.1 x.2=true) (h2:xs.Pairwise fun x y=>x.1+x.2 < y.1):joinL xs=xs:=by
 refine Canon.unique (join_canon xs) ⟨fun x hx=>(may_bd (h1 x hx)).2.2.1,h2,fun p=> ?_⟩
 rw [covered_iff]
 exact ⟨fun ⟨x,hx,hp⟩=>⟨x,hx,h1 x hx,hp⟩,fun ⟨x,hx,_,hp⟩=>⟨x,hx,hp⟩⟩
theorem right_iff {a s:Int} {xs:List (Int×Int)}:rightB a s xs=true↔(∀x∈xs,withinB x.1 x.2 a s=true)∧xs.Pairwise fun x y=>x.1+x.2 < y.1:=by
 rw [rightB,Bool.and_eq_true,List.all_eq_true,decide_eq_true_eq]
 constructor
 ·rintro ⟨h1,h2⟩
  have:=(join_canon xs).apart
  rw [h2]at this
  exact ⟨h1,this⟩
 ·rintro ⟨h1,h2⟩
  exact ⟨h1,join_self (fun x hx=>within_may (h1 x hx)) h2⟩
end Go.Proofs.YtphpppjfogpohaaGreat
