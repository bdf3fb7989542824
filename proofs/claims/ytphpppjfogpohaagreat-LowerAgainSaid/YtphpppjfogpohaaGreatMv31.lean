/- Merged by program (merge.py) out of: RchP. -/
import Derived.Test.YtphpppjfogpohaaGreatRows
set_option linter.unusedSimpArgs false
set_option linter.unusedVariables false
set_option maxRecDepth 100000
set_option maxHeartbeats 16000000
namespace Go.Proofs.YtphpppjfogpohaaGreat
structure PlE where
 n:Nat
 sz:Nat→Nat
 fs:Nat→List (Int×Int)
 lim:Nat
 blk:Nat
structure PlD where
 small:List Nat
 begins:List Nat
 lk:List Bool
 large:List Nat
 pile:List Nat
 top:Nat
section
variable {E : PlE} {p q : PlD} {mk : Bool} {v : Int × Int} {l : List (Int × Int)}
theorem nodup_le:∀(n:Nat) (l:List Nat),l.Nodup→(∀i∈l,i < n)→l.length≤n
 | 0,l,_,h=>by
  cases l with
  | nil=>simp
  | cons x l=>exact absurd (h x (List.mem_cons_self ..)) (by omega)
 | n+1,l,hd,h=>by
  by_cases hn:n∈l
  ·have h1 := nodup_le n (l.erase n) (hd.erase n) (fun i hi => by
    have h2:=h i (List.mem_of_mem_erase hi)
    have h3:i≠n:=fun e=>by subst e;exact hd.not_mem_erase hi
    omega)
   rw [List.length_erase_of_mem hn]at h1
   omega
  ·have h1 := nodup_le n l hd (fun i hi => by
    have h2:=h i hi
    have h3:i≠n:=fun e=>by subst e;exact hn hi
    omega)
   omega
theorem getD_get {α:Type} {l:List α} {i:Nat} {d:α} (h:i < l.length):l.getD i d=l[i]:=by simp [h]
theorem getD_appL {α:Type} {l l':List α} {i:Nat} {d:α} (h:i < l.length):(l++l').getD i d=l.getD i d:=by
 simp [List.getD_eq_getElem?_getD,List.getElem?_append_left h]
theorem getD_appR {α:Type} {l l':List α} {i:Nat} {d:α} (h:l.length≤i):(l++l').getD i d=l'.getD (i - l.length) d:=by
 simp [List.getD_eq_getElem?_getD,List.getElem?_append_right h]
end
end Go.Proofs.YtphpppjfogpohaaGreat
