/- Merged by program (merge.py) out of: CnR, CnS, LfG. -/
import Derived.Test.YtphpppjfogpohaaGreatMq0
import Derived.Laws.CopyOwn
import Derived.Test.YtphpppjfogpohaaGreatMq50
set_option linter.unusedSimpArgs false
set_option linter.unusedVariables false
set_option maxRecDepth 100000
set_option maxHeartbeats 16000000
namespace Go.Proofs.YtphpppjfogpohaaGreat
open Go.RowKit Go.Shelf
def grV (vs:List NodV) (rs:List (Int×Int)):GraphD:=⟨none,0,vs.map fun x=>⟨x.1,none,0,x.2.1,none,0,x.2.2⟩,none,0,rs⟩
theorem yi (vs:List NodV) (rs:List (Int×Int)):valN (grV vs rs)=vs:=by
 unfold valN grV
 rw [List.map_map]
 refine (List.map_congr_left fun x _=> ?_).trans (List.map_id vs)
 rfl
section
variable {G H : GraphD}
theorem gm (h:valN G=valN H) (h2:G.rs=H.rs):aV G=aV H:=by
 have e:∀(K:GraphD),aV K=((valN K).all (fun x=>decide (0≤x.1∧x.1≤31∧x.2.1.length≤4096∧x.2.2.length≤4096) && x.2.1.all (okV (valN K).length)) && K.rs.all (okV (valN K).length)):=fun K=>by
  rw [mC]
  unfold aV valN
  rw [List.all_map]
  rfl
 rw [e,e,h,h2]
theorem np (h:valN G=valN H) (h2:G.rs=H.rs) (lim ord blk:Int):ap G lim ord blk=ap H lim ord blk:=by
 unfold ap
 rw [gm h h2]
theorem nr (h:valN G=valN H) (h2:G.rs=H.rs) (lim ord blk:Int):planD G lim ord blk=planD H lim ord blk:=by
 unfold planD envG
 have e:G.ns.map aY=H.ns.map aY:=h
 rw [e,h2]
theorem nt (h:valN G=valN H) (h2:G.rs=H.rs) (lim ord blk:Int):planS G lim ord blk=planS H lim ord blk:=by
 unfold planS
 rw [np h h2,nr h h2]
theorem vG (h:valN G=valN H) (h2:G.rs=H.rs) (lim ord blk:Int):planL G lim ord blk=planL H lim ord blk:=by
 unfold planL
 rw [np h h2,nr h h2]
theorem mP {f:NodeD→Int} (g:NodV→Int) (hf:∀x,f x=g (aY x)) (hl:valN G=valN H) (l:List Int):addS f G.ns l=addS f H.ns l:=by
 have e:∀(K:GraphD),addS f K.ns l=l.foldl (fun (n i:Int)=>if 0≤i∧i < (valN K).length then wrap64 (n+g ((valN K).getD i.toNat (0,[],[])))else n) 0:=fun K=>by
  unfold addS
  rw [mC]
  congr 1
  funext n i
  by_cases h:0≤i∧i < (K.ns.length:Int)
  ·rw [if_pos h,if_pos h,hf,gH oM]
  ·rw [if_neg h,if_neg h]
 rw [e,e,hl]
theorem nu (x:NodeD):dx x=wrap64 (wrap64 (1+(aY x).2.1.length)+(aY x).2.2.length):=rfl
theorem rF (x:NodeD):fW x=(aY x).2.1.length:=rfl
theorem jN (h:valN G=valN H) (h2:G.rs=H.rs):canV G=canV H∧canQ G=canQ H:=by
 unfold canV canQ ordG
 rw [gm h h2,h,h2]
 exact ⟨rfl,rfl⟩
theorem sa {A B C D:GraphD} (h:valN A=valN C) (h2:A.rs=C.rs) (h3:valN B=valN D) (h4:B.rs=D.rs):de A B=de C D:=by
 unfold de
 rw [gm h h2,gm h3 h4,(jN h h2).1,(jN h h2).2,(jN h3 h4).1,(jN h3 h4).2]
end
def lvN (G:GraphD):Int:=(planS G 1048576 1 1).length
def lvX (G:GraphD) (lim:Int):Int:=addS dx G.ns (planS G lim 0 1)
def lvY (G:GraphD) (lim:Int):Int:=addS dx G.ns (planL G lim 0 1)
def lvF (G:GraphD) (lim:Int):Int:=addS fW G.ns (planS G lim 0 1++planL G lim 0 1)
theorem x6 {G H:GraphD} (h:valN G=valN H) (h2:G.rs=H.rs) (lim:Int):lvN G=lvN H∧lvX G lim=lvX H lim∧lvY G lim=lvY H lim∧lvF G lim=lvF H lim:=by
 unfold lvN lvX lvY lvF
 rw [nt h h2,nt h h2,vG h h2]
 exact ⟨rfl,mP (fun x=>wrap64 (wrap64 (1+x.2.1.length)+x.2.2.length)) nu h _,mP (fun x=>wrap64 (wrap64 (1+x.2.1.length)+x.2.2.length)) nu h _,mP (fun x=>x.2.1.length) rF h _⟩
end Go.Proofs.YtphpppjfogpohaaGreat
