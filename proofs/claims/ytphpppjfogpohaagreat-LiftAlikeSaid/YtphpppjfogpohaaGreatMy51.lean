/- Merged by program (merge.py) out of: CnR, CnS, LfG. -/
import Derived.Test.YtphpppjfogpohaaGreatMy0
import Derived.Laws.CopyOwn
import Derived.Test.YtphpppjfogpohaaGreatMy50
set_option linter.unusedSimpArgs false
set_option linter.unusedVariables false
set_option maxRecDepth 100000
set_option maxHeartbeats 16000000
namespace Go.Proofs.YtphpppjfogpohaaGreat
open Go.RowKit Go.Shelf
def grV (vs:List NodV) (rs:List (Int×Int)):GraphD:=⟨none,0,vs.map fun x=>⟨x.1,none,0,x.2.1,none,0,x.2.2⟩,none,0,rs⟩
theorem tX (vs:List NodV) (rs:List (Int×Int)):valN (grV vs rs)=vs:=by
 unfold valN grV
 rw [List.map_map]
 refine (List.map_congr_left fun x _=> ?_).trans (List.map_id vs)
 rfl
section
variable {G H : GraphD}
theorem fL (h:valN G=valN H) (h2:G.rs=H.rs):aR G=aR H:=by
 have e:∀(K:GraphD),aR K=((valN K).all (fun x=>decide (0≤x.1∧x.1≤31∧x.2.1.length≤4096∧x.2.2.length≤4096) && x.2.1.all (okV (valN K).length)) && K.rs.all (okV (valN K).length)):=fun K=>by
  rw [cX]
  unfold aR valN
  rw [List.all_map]
  rfl
 rw [e,e,h,h2]
theorem ng (h:valN G=valN H) (h2:G.rs=H.rs) (lim ord blk:Int):bi G lim ord blk=bi H lim ord blk:=by
 unfold bi
 rw [fL h h2]
theorem nh (h:valN G=valN H) (h2:G.rs=H.rs) (lim ord blk:Int):planD G lim ord blk=planD H lim ord blk:=by
 unfold planD envG
 have e:G.ns.map aX=H.ns.map aX:=h
 rw [e,h2]
theorem ni (h:valN G=valN H) (h2:G.rs=H.rs) (lim ord blk:Int):planS G lim ord blk=planS H lim ord blk:=by
 unfold planS
 rw [ng h h2,nh h h2]
theorem uz (h:valN G=valN H) (h2:G.rs=H.rs) (lim ord blk:Int):planL G lim ord blk=planL H lim ord blk:=by
 unfold planL
 rw [ng h h2,nh h h2]
theorem mO {f:NodeD→Int} (g:NodV→Int) (hf:∀x,f x=g (aX x)) (hl:valN G=valN H) (l:List Int):addS f G.ns l=addS f H.ns l:=by
 have e:∀(K:GraphD),addS f K.ns l=l.foldl (fun (n i:Int)=>if 0≤i∧i < (valN K).length then wrap64 (n+g ((valN K).getD i.toNat (0,[],[])))else n) 0:=fun K=>by
  unfold addS
  rw [cX]
  congr 1
  funext n i
  by_cases h:0≤i∧i < (K.ns.length:Int)
  ·rw [if_pos h,if_pos h,hf,dY oM]
  ·rw [if_neg h,if_neg h]
 rw [e,e,hl]
theorem nj (x:NodeD):gg x=wrap64 (wrap64 (1+(aX x).2.1.length)+(aX x).2.2.length):=rfl
theorem rF (x:NodeD):kJ x=(aX x).2.1.length:=rfl
theorem jJ (h:valN G=valN H) (h2:G.rs=H.rs):canV G=canV H∧canQ G=canQ H:=by
 unfold canV canQ ordG
 rw [fL h h2,h,h2]
 exact ⟨rfl,rfl⟩
theorem mP {A B C D:GraphD} (h:valN A=valN C) (h2:A.rs=C.rs) (h3:valN B=valN D) (h4:B.rs=D.rs):bX A B=bX C D:=by
 unfold bX
 rw [fL h h2,fL h3 h4,(jJ h h2).1,(jJ h h2).2,(jJ h3 h4).1,(jJ h3 h4).2]
end
def lvN (G:GraphD):Int:=(planS G 1048576 1 1).length
def lvX (G:GraphD) (lim:Int):Int:=addS gg G.ns (planS G lim 0 1)
def lvY (G:GraphD) (lim:Int):Int:=addS gg G.ns (planL G lim 0 1)
def lvF (G:GraphD) (lim:Int):Int:=addS kJ G.ns (planS G lim 0 1++planL G lim 0 1)
theorem zN {G H:GraphD} (h:valN G=valN H) (h2:G.rs=H.rs) (lim:Int):lvN G=lvN H∧lvX G lim=lvX H lim∧lvY G lim=lvY H lim∧lvF G lim=lvF H lim:=by
 unfold lvN lvX lvY lvF
 rw [ni h h2,ni h h2,uz h h2]
 exact ⟨rfl,mO (fun x=>wrap64 (wrap64 (1+x.2.1.length)+x.2.2.length)) nj h _,mO (fun x=>wrap64 (wrap64 (1+x.2.1.length)+x.2.2.length)) nj h _,mO (fun x=>x.2.1.length) rF h _⟩
end Go.Proofs.YtphpppjfogpohaaGreat
