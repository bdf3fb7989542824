/- Merged by program (merge.py) out of: CnR, CnS, LfG. -/
import Derived.Laws.CopyOwn
import Derived.Test.YtphpppjfogpohaaGreatMl51
set_option linter.unusedSimpArgs false
set_option linter.unusedVariables false
namespace Go.Proofs.YtphpppjfogpohaaGreat
open Go.RowKit Go.Shelf
set_option maxRecDepth 100000
set_option maxHeartbeats 2000000
end Go.Proofs.YtphpppjfogpohaaGreat
namespace Go.Proofs.YtphpppjfogpohaaGreat
open Go.RowKit Go.Shelf
def grV (vs : List NodV) (rs : List (Int × Int)) : GraphD := ⟨none, 0, vs.map fun x => ⟨x.1, none, 0, x.2.1, none, 0, x.2.2⟩, none, 0, rs⟩
theorem grV_val (vs : List NodV) (rs : List (Int × Int)) : valN (grV vs rs) = vs := by
 unfold valN grV
 rw [List.map_map]
 refine (List.map_congr_left fun x _ => ?_).trans (List.map_id vs)
 rfl
section
variable {G H : GraphD}
theorem rightG_val (h : valN G = valN H) (h2 : G.rs = H.rs) : rightG G = rightG H := by
 have e : ∀ (K : GraphD), rightG K = ((valN K).all (fun x => decide (0 ≤ x.1 ∧ x.1 ≤ 31 ∧ x.2.1.length ≤ 4096 ∧ x.2.2.length ≤ 4096) && x.2.1.all (okV (valN K).length)) && K.rs.all (okV (valN K).length)) := fun K => by
  rw [valN_len]
  unfold rightG valN
  rw [List.all_map]
  rfl
 rw [e, e, h, h2]
theorem planE_val (h : valN G = valN H) (h2 : G.rs = H.rs) (lim ord blk : Int) : planE G lim ord blk = planE H lim ord blk := by
 unfold planE
 rw [rightG_val h h2]
theorem planD_val (h : valN G = valN H) (h2 : G.rs = H.rs) (lim ord blk : Int) : planD G lim ord blk = planD H lim ord blk := by
 unfold planD envG
 have e : G.ns.map nodeV = H.ns.map nodeV := h
 rw [e, h2]
theorem planS_val (h : valN G = valN H) (h2 : G.rs = H.rs) (lim ord blk : Int) : planS G lim ord blk = planS H lim ord blk := by
 unfold planS
 rw [planE_val h h2, planD_val h h2]
theorem planL_val (h : valN G = valN H) (h2 : G.rs = H.rs) (lim ord blk : Int) : planL G lim ord blk = planL H lim ord blk := by
 unfold planL
 rw [planE_val h h2, planD_val h h2]
theorem addS_val {f : NodeD → Int} (g : NodV → Int) (hf : ∀ x, f x = g (nodeV x)) (hl : valN G = valN H) (l : List Int) : addS f G.ns l = addS f H.ns l := by
 have e : ∀ (K : GraphD), addS f K.ns l = l.foldl (fun (n i : Int) => if 0 ≤ i ∧ i < (valN K).length then wrap64 (n + g ((valN K).getD i.toNat (0, [], []))) else n) 0 := fun K => by
  unfold addS
  rw [valN_len]
  congr 1
  funext n i
  by_cases h : 0 ≤ i ∧ i < (K.ns.length : Int)
  ·rw [if_pos h, if_pos h, hf, valN_get (by omega)]
  ·rw [if_neg h, if_neg h]
 rw [e, e, hl]
theorem sizeN_val (x : NodeD) : sizeN x = wrap64 (wrap64 (1 + (nodeV x).2.1.length) + (nodeV x).2.2.length) := rfl
theorem fieldsN_val (x : NodeD) : fieldsN x = (nodeV x).2.1.length := rfl
theorem canV_val (h : valN G = valN H) (h2 : G.rs = H.rs) : canV G = canV H ∧ canQ G = canQ H := by
 unfold canV canQ ordG
 rw [rightG_val h h2, h, h2]
 exact ⟨rfl, rfl⟩
theorem alikeG_val {A B C D : GraphD} (h : valN A = valN C) (h2 : A.rs = C.rs) (h3 : valN B = valN D) (h4 : B.rs = D.rs) : alikeG A B = alikeG C D := by
 unfold alikeG
 rw [rightG_val h h2, rightG_val h3 h4, (canV_val h h2).1, (canV_val h h2).2, (canV_val h3 h4).1, (canV_val h3 h4).2]
end
def lvN (G : GraphD) : Int := (planS G 1048576 1 1).length
def lvX (G : GraphD) (lim : Int) : Int := addS sizeN G.ns (planS G lim 0 1)
def lvY (G : GraphD) (lim : Int) : Int := addS sizeN G.ns (planL G lim 0 1)
def lvF (G : GraphD) (lim : Int) : Int := addS fieldsN G.ns (planS G lim 0 1 ++ planL G lim 0 1)
theorem lv_val {G H : GraphD} (h : valN G = valN H) (h2 : G.rs = H.rs) (lim : Int) : lvN G = lvN H ∧ lvX G lim = lvX H lim ∧ lvY G lim = lvY H lim ∧ lvF G lim = lvF H lim := by
 unfold lvN lvX lvY lvF
 rw [planS_val h h2, planS_val h h2, planL_val h h2]
 exact ⟨rfl, addS_val (fun x => wrap64 (wrap64 (1 + x.2.1.length) + x.2.2.length)) sizeN_val h _, addS_val (fun x => wrap64 (wrap64 (1 + x.2.1.length) + x.2.2.length)) sizeN_val h _, addS_val (fun x => x.2.1.length) fieldsN_val h _⟩
end Go.Proofs.YtphpppjfogpohaaGreat
