/- Merged by program (merge.py) out of: CanP, Ris. -/
import Derived.Test.YtphpppjfogpohaaGreatMv31
import Derived.Test.YtphpppjfogpohaaGreatMv11
set_option linter.unusedSimpArgs false
set_option linter.unusedVariables false
set_option maxRecDepth 100000
set_option maxHeartbeats 16000000
namespace Go.Proofs.YtphpppjfogpohaaGreat
abbrev NodV:=Int×List (Int×Int)×List Int
def ordZ (o:List Nat):List Int:=o.map fun (i:Nat)=>(i:Int)
def turnV (ns:List NodV) (o:List Nat) (i:Nat):NodV:=((ns.getD i (0,[],[])).1,(ns.getD i (0,[],[])).2.1.map (turned (ordZ o)),(ns.getD i (0,[],[])).2.2)
def canN (ns:List NodV) (o:List Nat):List NodV:=o.map (turnV ns o)
def canR (rs:List (Int×Int)) (o:List Nat):List (Int×Int):=rs.map (turned (ordZ o))
theorem ordZ_len {o:List Nat}:(ordZ o).length=o.length:=by simp [ordZ]
theorem ordZ_get {o:List Nat} {i:Nat} (h:i < o.length):(ordZ o).getD i 0=(o.getD i 0:Nat):=by simp [ordZ,h]
section
variable {R : Nat → Nat → Prop} {o p : List Nat} {ns ms : List NodV} {rs qs : List (Int × Int)}
theorem getD_mem' {α:Type} {l:List α} {i:Nat} {d:α} (h:i < l.length):l.getD i d∈l:=by rw [getD_get h];exact List.getElem_mem _
theorem map_getD {α β:Type} {l:List α} {f:α→β} {i:Nat} {d:α} {e:β} (h:i < l.length):(l.map f).getD i e=f (l.getD i d):=by simp [h]
theorem list_ext {α:Type} (d:α) {l m:List α} (h:l.length=m.length) (he:∀i,i < l.length→l.getD i d=m.getD i d):l=m:=by
 refine List.ext_getElem h fun i h1 h2=> ?_
 have:=he i h1
 rwa [getD_get h1,getD_get h2]at this
structure OrdOk (ns:List NodV) (rs:List (Int×Int)) (o:List Nat):Prop where
 nd:o.Nodup
 lt:∀i∈o,i < ns.length
 roots:∀v∈rs,v.1=2→0≤v.2∧v.2.toNat∈o
 nodes:∀i∈o,∀v∈(ns.getD i (0,[],[])).2.1,v.1=2→0≤v.2∧v.2.toNat∈o
theorem nodup_inj {o:List Nat} (h:o.Nodup) {i j:Nat} (hi:i < o.length) (hj:j < o.length) (e:o.getD i 0=o.getD j 0):i=j:=by
 rw [getD_get hi,getD_get hj]at e
 exact (List.getElem_inj h).1 e
theorem ord_place {o:List Nat} (h:o.Nodup) {x:Int} (h0:0≤x) (hx:x.toNat∈o):∃j:Nat,j < o.length∧placeZ (ordZ o) x=j∧o.getD j 0=x.toNat:=by
 obtain ⟨j,hj,e⟩:=List.getElem_of_mem hx
 have e2:o.getD j 0=x.toNat:=by rw [getD_get hj];exact e
 refine ⟨j,hj,place_hit (by rw [ordZ_len];exact hj) (by rw [ordZ_get hj,e2];omega) (fun i hi he=> ?_),e2⟩
 rw [ordZ_get (by omega)]at he
 have:=nodup_inj h (by omega) hj (show o.getD i 0=o.getD j 0 by omega)
 omega
end
structure MtD where
 to:List Int
 at_:List Int
 bad:Bool
section
variable {n m : Nat} {s t : MtD} {ns ms : List NodV} {rs qs : List (Int × Int)} {R : Nat → Nat → Prop}
theorem getD_set {α:Type} {l:List α} {i j:Nat} {x d:α} (h:i < l.length):(l.set i x).getD j d=if i=j then x else l.getD j d:=by
 rw [List.getD_eq_getElem?_getD,List.getD_eq_getElem?_getD,List.getElem?_set]
 split <;>simp_all
end
end Go.Proofs.YtphpppjfogpohaaGreat
