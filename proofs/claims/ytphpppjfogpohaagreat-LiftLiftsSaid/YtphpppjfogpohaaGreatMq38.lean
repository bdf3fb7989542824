/- Merged by program (merge.py) out of: CnM, CnN, CnO, CnQ, RchH, RchI. -/
import Derived.Test.YtphpppjfogpohaaGreatMq0
import Derived.Test.YtphpppjfogpohaaGreatMq37
import Derived.Test.YtphpppjfogpohaaGreatMq36
import Derived.Test.YtphpppjfogpohaaGreatMq4
import Derived.Test.YtphpppjfogpohaaGreatMq3
set_option linter.unusedSimpArgs false
set_option linter.unusedVariables false
set_option maxRecDepth 100000
set_option maxHeartbeats 16000000
namespace Go.Proofs.YtphpppjfogpohaaGreat
open Go.RowKit Go.Shelf
theorem mC (A:GraphD):(valN A).length=A.ns.length:=by simp [valN]
theorem b5 {α:Type} {e:TypeId} {n:Nat} {f:α→List Value} {w:World} {B:Nat} {v:Value} {xs:List α} (h:Own e n f w B v xs) {g:Nat} (hv:v.ownBlock=some g):∃cur,w.heap[g]?=some (.cells cur e (0,0)):=by
 rcases h.2 with ⟨rfl,_⟩ | ⟨g',cap,cur,rfl,_,hg,_⟩
 ·cases hv
 ·injection hv with hv
  simp only at hv
  subst hv
  exact ⟨cur,hg⟩
theorem eU {w:World} {B:Nat} {v:Value} {xs:List Int} (h:OwnO w B v xs) {g:Nat} (hv:v.ownBlock=some g):∃cur,w.heap[g]?=some (.cells cur 3 (0,0)):=by
 rcases h with ⟨rfl,_⟩ | ⟨g',off,cap,cur,rfl,_,hg,_⟩
 ·cases hv
 ·injection hv with hv
  simp only at hv
  subst hv
  exact ⟨cur,hg⟩
structure PR (V0:World) (sv bv kv lv pv mv:Value) (mp nm:Nat) (f:Int→Value) (Y:Int→List Nat) (ms:List Bool) (p:PlD) (w:World):Prop where
 os:Own 3 1 intC w V0.heap.size sv (ordZ p.small)
 ob:Own 3 1 intC w V0.heap.size bv (ordZ p.begins)
 ok:Own 4 1 dv w V0.heap.size kv p.lk
 ol:Own 3 1 intC w V0.heap.size lv (ordZ p.large)
 op:Own 3 1 intC w V0.heap.size pv (ordZ p.pile)
 om:Own 4 1 dv w V0.heap.size mv ms
 mpv:MapV w mp nm f
 fam:∀c,OwnO w V0.heap.size (f c) (ordZ (Y c))
 sep:Sep [sv,bv,kv,lv,pv,mv]
 sepf:∀v∈ [sv,bv,kv,lv,pv,mv],∀c g,v.ownBlock=some g→(f c).ownBlock≠some g
 sepc:∀c c' g,c≠c'→(f c).ownBlock=some g→(f c').ownBlock≠some g
 mlo:V0.heap.size≤mp
 ext:Ext V0 w
section
variable {V0 : World} {sv bv kv lv pv mv : Value} {mp nm : Nat} {f : Int → Value} {Y : Int → List Nat} {ms : List Bool} {p : PlD} {w w' : World}
theorem PR.grow (h:PR V0 sv bv kv lv pv mv mp nm f Y ms p w) (hx:Ext w w'):PR V0 sv bv kv lv pv mv mp nm f Y ms p w':=
 ⟨h.os.ext hx,h.ob.ext hx,h.ok.ext hx,h.ol.ext hx,h.op.ext hx,h.om.ext hx,h.mpv.ext hx,fun c=>(h.fam c).ext hx,h.sep,h.sepf,h.sepc,h.mlo,h.ext.trans hx⟩
theorem PR.lt (h:PR V0 sv bv kv lv pv mv mp nm f Y ms p w):∀v∈ [sv,bv,kv,lv,pv,mv],∀g,v.ownBlock=some g→g < w.heap.size:=by
 intro v hv g hg
 simp only [List.mem_cons,List.not_mem_nil,or_false]at hv
 rcases hv with rfl | rfl | rfl | rfl | rfl | rfl
 ·exact (bJ h.os hg).2
 ·exact (bJ h.ob hg).2
 ·exact (bJ h.ok hg).2
 ·exact (bJ h.ol hg).2
 ·exact (bJ h.op hg).2
 ·exact (bJ h.om hg).2
theorem PR.turn_s (h:PR V0 sv bv kv lv pv mv mp nm f Y ms p w) {x:Value} {ys:List Nat} (ho:Own 3 1 intC w' V0.heap.size x (ordZ ys)) (hg:w.grownBy w' sv.ownBlock)
  (hx:x.ownBlock=sv.ownBlock∨x.ownBlock=none∨∃k,w.heap.size≤k∧x.ownBlock=some k):PR V0 x bv kv lv pv mv mp nm f Y ms {p with small:=ys} w':=by
 have hm:sv∈ [sv,bv,kv,lv,pv,mv]:=by simp
 refine ⟨ho,h.ob.kept hg (h.sep.ne 1 0 rfl rfl dM),h.ok.kept hg (h.sep.ne 2 0 rfl rfl dM),h.ol.kept hg (h.sep.ne 3 0 rfl rfl dM),h.op.kept hg (h.sep.ne 4 0 rfl rfl dM),h.om.kept hg (h.sep.ne 5 0 rfl rfl dM),h.mpv.kept hg (fun e=> ?_),fun c=>(h.fam c).kept hg (fun g hv e=>h.sepf _ hm c g e.symm hv),h.sep.turn 0 rfl hx h.lt,?_,h.sepc,h.mlo,h.os.grown hg (Nat.le_refl _) h.ext⟩
 ·obtain ⟨cur,hc⟩:=b5 h.os e.symm
  exact h.mpv.ne hc rfl
 ·intro v hv c g hvg hfg
  simp only [List.mem_cons,List.not_mem_nil,or_false]at hv
  have hold:∀u∈ [sv,bv,kv,lv,pv,mv],u.ownBlock=some g→False:=fun u hu hug=>h.sepf u hu c g hug hfg
  have hnew:x.ownBlock=some g→False:=fun e=>by
   rcases hx with hx | hx | ⟨j,hj,hx⟩
   ·exact hold _ hm (hx ▸ e)
   ·rw [hx]at e;cases e
   ·rw [hx]at e
    injection e with e
    have:=((h.fam c).lt hfg).2
    omega
  rcases hv with rfl | rfl | rfl | rfl | rfl | rfl
  ·exact hnew hvg
  ·exact hold _ sM hvg
  ·exact hold _ sM hvg
  ·exact hold _ sM hvg
  ·exact hold _ sM hvg
  ·exact hold _ sM hvg
theorem PR.turn_b (h:PR V0 sv bv kv lv pv mv mp nm f Y ms p w) {x:Value} {ys:List Nat} (ho:Own 3 1 intC w' V0.heap.size x (ordZ ys)) (hg:w.grownBy w' bv.ownBlock)
  (hx:x.ownBlock=bv.ownBlock∨x.ownBlock=none∨∃k,w.heap.size≤k∧x.ownBlock=some k):PR V0 sv x kv lv pv mv mp nm f Y ms {p with begins:=ys} w':=by
 have hm:bv∈ [sv,bv,kv,lv,pv,mv]:=by simp
 refine ⟨h.os.kept hg (h.sep.ne 0 1 rfl rfl dM),ho,h.ok.kept hg (h.sep.ne 2 1 rfl rfl dM),h.ol.kept hg (h.sep.ne 3 1 rfl rfl dM),h.op.kept hg (h.sep.ne 4 1 rfl rfl dM),h.om.kept hg (h.sep.ne 5 1 rfl rfl dM),h.mpv.kept hg (fun e=> ?_),fun c=>(h.fam c).kept hg (fun g hv e=>h.sepf _ hm c g e.symm hv),h.sep.turn 1 rfl hx h.lt,?_,h.sepc,h.mlo,h.ob.grown hg (Nat.le_refl _) h.ext⟩
 ·obtain ⟨cur,hc⟩:=b5 h.ob e.symm
  exact h.mpv.ne hc rfl
 ·intro v hv c g hvg hfg
  simp only [List.mem_cons,List.not_mem_nil,or_false]at hv
  have hold:∀u∈ [sv,bv,kv,lv,pv,mv],u.ownBlock=some g→False:=fun u hu hug=>h.sepf u hu c g hug hfg
  have hnew:x.ownBlock=some g→False:=fun e=>by
   rcases hx with hx | hx | ⟨j,hj,hx⟩
   ·exact hold _ hm (hx ▸ e)
   ·rw [hx]at e;cases e
   ·rw [hx]at e
    injection e with e
    have:=((h.fam c).lt hfg).2
    omega
  rcases hv with rfl | rfl | rfl | rfl | rfl | rfl
  ·exact hold _ sM hvg
  ·exact hnew hvg
  ·exact hold _ sM hvg
  ·exact hold _ sM hvg
  ·exact hold _ sM hvg
  ·exact hold _ sM hvg
theorem PR.turn_k (h:PR V0 sv bv kv lv pv mv mp nm f Y ms p w) {x:Value} {ys:List Bool} (ho:Own 4 1 dv w' V0.heap.size x ys) (hg:w.grownBy w' kv.ownBlock)
  (hx:x.ownBlock=kv.ownBlock∨x.ownBlock=none∨∃k,w.heap.size≤k∧x.ownBlock=some k):PR V0 sv bv x lv pv mv mp nm f Y ms {p with lk:=ys} w':=by
 have hm:kv∈ [sv,bv,kv,lv,pv,mv]:=by simp
 refine ⟨h.os.kept hg (h.sep.ne 0 2 rfl rfl dM),h.ob.kept hg (h.sep.ne 1 2 rfl rfl dM),ho,h.ol.kept hg (h.sep.ne 3 2 rfl rfl dM),h.op.kept hg (h.sep.ne 4 2 rfl rfl dM),h.om.kept hg (h.sep.ne 5 2 rfl rfl dM),h.mpv.kept hg (fun e=> ?_),fun c=>(h.fam c).kept hg (fun g hv e=>h.sepf _ hm c g e.symm hv),h.sep.turn 2 rfl hx h.lt,?_,h.sepc,h.mlo,h.ok.grown hg (Nat.le_refl _) h.ext⟩
 ·obtain ⟨cur,hc⟩:=b5 h.ok e.symm
  exact h.mpv.ne hc rfl
 ·intro v hv c g hvg hfg
  simp only [List.mem_cons,List.not_mem_nil,or_false]at hv
  have hold:∀u∈ [sv,bv,kv,lv,pv,mv],u.ownBlock=some g→False:=fun u hu hug=>h.sepf u hu c g hug hfg
  have hnew:x.ownBlock=some g→False:=fun e=>by
   rcases hx with hx | hx | ⟨j,hj,hx⟩
   ·exact hold _ hm (hx ▸ e)
   ·rw [hx]at e;cases e
   ·rw [hx]at e
    injection e with e
    have:=((h.fam c).lt hfg).2
    omega
  rcases hv with rfl | rfl | rfl | rfl | rfl | rfl
  ·exact hold _ sM hvg
  ·exact hold _ sM hvg
  ·exact hnew hvg
  ·exact hold _ sM hvg
  ·exact hold _ sM hvg
  ·exact hold _ sM hvg
theorem PR.turn_l (h:PR V0 sv bv kv lv pv mv mp nm f Y ms p w) {x:Value} {ys:List Nat} (ho:Own 3 1 intC w' V0.heap.size x (ordZ ys)) (hg:w.grownBy w' lv.ownBlock)
  (hx:x.ownBlock=lv.ownBlock∨x.ownBlock=none∨∃k,w.heap.size≤k∧x.ownBlock=some k):PR V0 sv bv kv x pv mv mp nm f Y ms {p with large:=ys} w':=by
 have hm:lv∈ [sv,bv,kv,lv,pv,mv]:=by simp
 refine ⟨h.os.kept hg (h.sep.ne 0 3 rfl rfl dM),h.ob.kept hg (h.sep.ne 1 3 rfl rfl dM),h.ok.kept hg (h.sep.ne 2 3 rfl rfl dM),ho,h.op.kept hg (h.sep.ne 4 3 rfl rfl dM),h.om.kept hg (h.sep.ne 5 3 rfl rfl dM),h.mpv.kept hg (fun e=> ?_),fun c=>(h.fam c).kept hg (fun g hv e=>h.sepf _ hm c g e.symm hv),h.sep.turn 3 rfl hx h.lt,?_,h.sepc,h.mlo,h.ol.grown hg (Nat.le_refl _) h.ext⟩
 ·obtain ⟨cur,hc⟩:=b5 h.ol e.symm
  exact h.mpv.ne hc rfl
 ·intro v hv c g hvg hfg
  simp only [List.mem_cons,List.not_mem_nil,or_false]at hv
  have hold:∀u∈ [sv,bv,kv,lv,pv,mv],u.ownBlock=some g→False:=fun u hu hug=>h.sepf u hu c g hug hfg
  have hnew:x.ownBlock=some g→False:=fun e=>by
   rcases hx with hx | hx | ⟨j,hj,hx⟩
   ·exact hold _ hm (hx ▸ e)
   ·rw [hx]at e;cases e
   ·rw [hx]at e
    injection e with e
    have:=((h.fam c).lt hfg).2
    omega
  rcases hv with rfl | rfl | rfl | rfl | rfl | rfl
  ·exact hold _ sM hvg
  ·exact hold _ sM hvg
  ·exact hold _ sM hvg
  ·exact hnew hvg
  ·exact hold _ sM hvg
  ·exact hold _ sM hvg
theorem PR.turn_p (h:PR V0 sv bv kv lv pv mv mp nm f Y ms p w) {x:Value} {ys:List Nat} (ho:Own 3 1 intC w' V0.heap.size x (ordZ ys)) (hg:w.grownBy w' pv.ownBlock)
  (hx:x.ownBlock=pv.ownBlock∨x.ownBlock=none∨∃k,w.heap.size≤k∧x.ownBlock=some k):PR V0 sv bv kv lv x mv mp nm f Y ms {p with pile:=ys} w':=by
 have hm:pv∈ [sv,bv,kv,lv,pv,mv]:=by simp
 refine ⟨h.os.kept hg (h.sep.ne 0 4 rfl rfl dM),h.ob.kept hg (h.sep.ne 1 4 rfl rfl dM),h.ok.kept hg (h.sep.ne 2 4 rfl rfl dM),h.ol.kept hg (h.sep.ne 3 4 rfl rfl dM),ho,h.om.kept hg (h.sep.ne 5 4 rfl rfl dM),h.mpv.kept hg (fun e=> ?_),fun c=>(h.fam c).kept hg (fun g hv e=>h.sepf _ hm c g e.symm hv),h.sep.turn 4 rfl hx h.lt,?_,h.sepc,h.mlo,h.op.grown hg (Nat.le_refl _) h.ext⟩
 ·obtain ⟨cur,hc⟩:=b5 h.op e.symm
  exact h.mpv.ne hc rfl
 ·intro v hv c g hvg hfg
  simp only [List.mem_cons,List.not_mem_nil,or_false]at hv
  have hold:∀u∈ [sv,bv,kv,lv,pv,mv],u.ownBlock=some g→False:=fun u hu hug=>h.sepf u hu c g hug hfg
  have hnew:x.ownBlock=some g→False:=fun e=>by
   rcases hx with hx | hx | ⟨j,hj,hx⟩
   ·exact hold _ hm (hx ▸ e)
   ·rw [hx]at e;cases e
   ·rw [hx]at e
    injection e with e
    have:=((h.fam c).lt hfg).2
    omega
  rcases hv with rfl | rfl | rfl | rfl | rfl | rfl
  ·exact hold _ sM hvg
  ·exact hold _ sM hvg
  ·exact hold _ sM hvg
  ·exact hold _ sM hvg
  ·exact hnew hvg
  ·exact hold _ sM hvg
theorem PR.top (h:PR V0 sv bv kv lv pv mv mp nm f Y ms p w) (t:Nat):PR V0 sv bv kv lv pv mv mp nm f Y ms {p with top:=t} w:=⟨h.os,h.ob,h.ok,h.ol,h.op,h.om,h.mpv,h.fam,h.sep,h.sepf,h.sepc,h.mlo,h.ext⟩
theorem PR.far (h:PR V0 sv bv kv lv pv mv mp nm f Y ms p w) {b i:Nat} {u:Value} {cs:Array Value} {t:TypeId} {r:Nat×Nat} (hb:w.heap[b]?=some (.cells cs t r)) (h1:t≠3) (h2:t≠4) (hlo:V0.heap.size≤b):PR V0 sv bv kv lv pv mv mp nm f Y ms p (w.setCell ⟨b,i,none⟩ u):=
 ⟨h.os.setOther hb h1,h.ob.setOther hb h1,h.ok.setOther hb h2,h.ol.setOther hb h1,h.op.setOther hb h1,h.om.setOther hb h2,h.mpv.setCell (h.mpv.ne hb) _,fun c=>(h.fam c).setOther hb h1,h.sep,h.sepf,h.sepc,h.mlo,h.ext.setCell hlo _⟩
theorem PR.setK {g:Nat} {n c:Nat} (h:PR V0 sv bv kv lv pv mv mp nm f Y ms p w) (hk:kv= .slice (some ⟨g,0,none⟩) n c) (hn:p.lk.length=n) (i:Nat):PR V0 sv bv (.slice (some ⟨g,0,none⟩) n c) lv pv mv mp nm f Y ms (p.looked i) (w.setCell ⟨g,i,none⟩ (.bool true)):=by
 subst hk
 obtain ⟨cur,hc⟩:=b5 h.ok rfl
 have s5:=h.sep 2 5 _ _ g rfl rfl dM rfl
 exact ⟨h.os.setOther hc dM,h.ob.setOther hc dM,km h.ok hn i true,h.ol.setOther hc dM,h.op.setOther hc dM,h.om.setNe s5,h.mpv.setCell (a:=⟨g,i,none⟩) (h.mpv.ne hc) _,fun c=>(h.fam c).setOther hc dM,h.sep,h.sepf,h.sepc,h.mlo,h.ext.setCell (p:=⟨g,i,none⟩) (bJ h.ok rfl).1 _⟩
theorem PR.setM {g:Nat} {n c:Nat} (h:PR V0 sv bv kv lv pv mv mp nm f Y ms p w) (hk:mv= .slice (some ⟨g,0,none⟩) n c) (hn:ms.length=n) (i:Nat):PR V0 sv bv kv lv pv (.slice (some ⟨g,0,none⟩) n c) mp nm f Y (ms.set i true) p (w.setCell ⟨g,i,none⟩ (.bool true)):=by
 subst hk
 obtain ⟨cur,hc⟩:=b5 h.om rfl
 have s5:=h.sep 5 2 _ _ g rfl rfl dM rfl
 exact ⟨h.os.setOther hc dM,h.ob.setOther hc dM,h.ok.setNe s5,h.ol.setOther hc dM,h.op.setOther hc dM,km h.om hn i true,h.mpv.setCell (a:=⟨g,i,none⟩) (h.mpv.ne hc) _,fun c=>(h.fam c).setOther hc dM,h.sep,h.sepf,h.sepc,h.mlo,h.ext.setCell (p:=⟨g,i,none⟩) (bJ h.om rfl).1 _⟩
theorem PR.mid (h:PR V0 sv bv kv lv pv mv mp nm f Y ms p w) {c:Int} (hg:w.grownBy w' (f c).ownBlock):MapV w' mp nm f:=h.mpv.kept hg (fun e=>by
 obtain ⟨cur,hc⟩:=eU (h.fam c) e.symm
 exact h.mpv.ne hc rfl)
theorem PR.put {w1:World} {c:Int} {x:Value} {ys:List Nat} {n2:Nat} (h:PR V0 sv bv kv lv pv mv mp nm f Y ms p w) (hg:w.grownBy w1 (f c).ownBlock) (ho:OwnO w1 V0.heap.size x (ordZ ys)) (hx:x.ownBlock=(f c).ownBlock∨x.ownBlock=none∨∃k,w.heap.size≤k∧x.ownBlock=some k)
  (hm:MapV w' mp n2 (fun y=>if y=c then x else f y)) (hg2:w1.grownBy w' (some mp)):PR V0 sv bv kv lv pv mv mp n2 (fun y=>if y=c then x else f y) (fun y=>if y=c then ys else Y y) ms p w':=by
 have hmc:=PR.mid h hg
 have hcell:∀v∈ [sv,bv,kv,lv,pv,mv],∀g,v.ownBlock=some g→some g≠(f c).ownBlock:=fun v hv g hvg e=>h.sepf v hv c g hvg e.symm
 have hxb:∀g,x.ownBlock=some g→(f c).ownBlock=some g∨w.heap.size≤g:=fun g hg=>by
  rcases hx with hx | hx | ⟨j,hj,hx⟩
  ·exact .inl (hx ▸ hg)
  ·rw [hx]at hg;cases hg
  ·rw [hx]at hg;injection hg with hg;exact .inr oM
 have hmw:∀g cs t r,w1.heap[g]?=some (.cells cs t r)→some g≠some mp:=fun g cs t r hc e=>by injection e with e;exact hmc.ne hc e.symm
 refine ⟨((h.os.kept hg (by cases e:sv.ownBlock with | none=>exact .inl rfl | some g=>exact .inr (hcell _ sM g e)))).kept hg2 (by cases e:sv.ownBlock with | none=>exact .inl rfl | some g=>exact .inr (by obtain ⟨cur,hc⟩:=b5 ((h.os.kept hg (.inr (by rw [e];exact hcell _ sM g e)))) e;exact hmw g _ _ _ hc)),((h.ob.kept hg (by cases e:bv.ownBlock with | none=>exact .inl rfl | some g=>exact .inr (hcell _ sM g e)))).kept hg2 (by cases e:bv.ownBlock with | none=>exact .inl rfl | some g=>exact .inr (by obtain ⟨cur,hc⟩:=b5 ((h.ob.kept hg (.inr (by rw [e];exact hcell _ sM g e)))) e;exact hmw g _ _ _ hc)),((h.ok.kept hg (by cases e:kv.ownBlock with | none=>exact .inl rfl | some g=>exact .inr (hcell _ sM g e)))).kept hg2 (by cases e:kv.ownBlock with | none=>exact .inl rfl | some g=>exact .inr (by obtain ⟨cur,hc⟩:=b5 ((h.ok.kept hg (.inr (by rw [e];exact hcell _ sM g e)))) e;exact hmw g _ _ _ hc)),((h.ol.kept hg (by cases e:lv.ownBlock with | none=>exact .inl rfl | some g=>exact .inr (hcell _ sM g e)))).kept hg2 (by cases e:lv.ownBlock with | none=>exact .inl rfl | some g=>exact .inr (by obtain ⟨cur,hc⟩:=b5 ((h.ol.kept hg (.inr (by rw [e];exact hcell _ sM g e)))) e;exact hmw g _ _ _ hc)),((h.op.kept hg (by cases e:pv.ownBlock with | none=>exact .inl rfl | some g=>exact .inr (hcell _ sM g e)))).kept hg2 (by cases e:pv.ownBlock with | none=>exact .inl rfl | some g=>exact .inr (by obtain ⟨cur,hc⟩:=b5 ((h.op.kept hg (.inr (by rw [e];exact hcell _ sM g e)))) e;exact hmw g _ _ _ hc)),((h.om.kept hg (by cases e:mv.ownBlock with | none=>exact .inl rfl | some g=>exact .inr (hcell _ sM g e)))).kept hg2 (by cases e:mv.ownBlock with | none=>exact .inl rfl | some g=>exact .inr (by obtain ⟨cur,hc⟩:=b5 ((h.om.kept hg (.inr (by rw [e];exact hcell _ sM g e)))) e;exact hmw g _ _ _ hc)),hm,fun d=> ?_,h.sep,fun v hv d g hvg hfg=> ?_,fun d d' g hd h1 h2=> ?_,h.mlo,?_⟩
 ·try simp only
  by_cases hd:d=c
  ·rw [if_pos hd,if_pos hd]
   exact ho.kept hg2 (fun g hv=>by obtain ⟨cur,hc⟩:=eU ho hv;exact hmw g _ _ _ hc)
  ·rw [if_neg hd,if_neg hd]
   have h3:=(h.fam d).kept hg (fun g hv e=>h.sepc d c g hd hv e.symm)
   exact h3.kept hg2 (fun g hv=>by obtain ⟨cur,hc⟩:=eU h3 hv;exact hmw g _ _ _ hc)
 ·try simp only at hfg
  by_cases hd:d=c
  ·rw [if_pos hd]at hfg
   rcases hxb g hfg with h4 | h4
   ·exact h.sepf v hv c g hvg h4
   ·have:=h.lt v hv g hvg;omega
  ·rw [if_neg hd]at hfg
   exact h.sepf v hv d g hvg hfg
 ·try simp only at h1 h2
  by_cases e1:d=c
  ·rw [if_pos e1]at h1
   rw [if_neg (fun e2=>hd (e1.trans e2.symm))]at h2
   rcases hxb g h1 with h4 | h4
   ·exact h.sepc c d' g (fun e=>hd (e1.trans e)) h4 h2
   ·have:=((h.fam d').lt h2).2;omega
  ·rw [if_neg e1]at h1
   by_cases e2:d'=c
   ·rw [if_pos e2]at h2
    rcases hxb g h2 with h4 | h4
    ·exact h.sepc d c g e1 h1 h4
    ·have:=((h.fam d).lt h1).2;omega
   ·rw [if_neg e2]at h2
    exact h.sepc d d' g hd h1 h2
 ·have e1:Ext V0 w1:=Below.grown h.ext hg (AG h.ext) (fun k hk=>((h.fam c).lt hk).1)
  exact Below.grown e1 hg2 (AG e1) (fun k hk=>by injection hk with hk;have:=h.mlo;omega)
end
theorem qn {o:Oper} {a:Act} {w:World} {K:Act→World→Prop} {Q:Exit→Act→World→Prop} (l:Operand) (hop:o.op=Op.makeSlice 199 l l) (n:Nat) (hl:a.eval l= .int .i64 (n:Int)) (hn:n≤17592186044416)
  (hK:∀w',Own 4 1 dv w' w.heap.size (.slice (some ⟨w.heap.size,0,none⟩) n n) (List.replicate n false)→Ext w w'→K (a.put o.dst (.slice (some ⟨w.heap.size,0,none⟩) n n)) w'):o.wp Tryz.prog a w K Q:=by
 obtain ⟨i,hi,hz0,hz1,hz2⟩:=info_parts mj
 obtain ⟨w',hrun,r1,r2⟩:=run_make_full (P:=Tryz.prog) w w.heap.size 199 4 i (.bool false) 1 Tryz.underlying199 hi hz0 hz1 .i64 .i64 n (by rw [hz2];omega) (by unfold maxLen;omega) (Nat.le_refl _)
 have hown:Own 4 1 dv w' w.heap.size (.slice (some ⟨w.heap.size,0,none⟩) n n) (List.replicate n false):=by
  unfold Own
  have e:(List.replicate n false).flatMap dv=(madeCells (Value.bool false).cells (n*1)).toList:=by
   rw [Nat.mul_one,show (Value.bool false).cells= #[Value.bool false]from rfl,toList_madeCells_one]
   clear r1 r2 hl hn hK hrun
   induction n with
   | zero=>rfl
   | succ n ih=>rw [List.replicate_succ,List.flatMap_cons,ih];rfl
  rw [e,List.length_replicate]
  exact r1
 unfold Oper.wp
 simp [execOp,hop,hl,hrun,Result.andThen]
 exact hK _ hown ⟨r2.os,r2.tape,r2.output,r2.size,fun k hk=>r2.block k hk sM⟩
def metL (n:Nat) (p:PlD):List Bool:=(List.range n).map p.has
def da (blk:Nat) (p:PlD) (c:Nat):List Nat:=(List.range p.small.length).filter fun i=>decide (p.begins.getD i 0/blk=c)
def NxtOk (blk:Nat) (p:PlD) (Y:Int→List Nat):Prop:=∀c:Nat,∃ds,da blk p c=ds++Y c∧∀i∈ds,p.lk.getD i true=true
def Fst (p:PlD) (fi:Nat):Prop:=fi≤p.small.length∧∀i,i < fi→p.lk.getD i true=true
section
variable {n blk x s : Nat} {p : PlD} {Y : Int → List Nat} {mk : Bool} {fi : Nat}
theorem cC:(metL n p).length=n:=by simp [metL]
theorem e8 {i:Nat} (h:i < n):(metL n p).getD i false=p.has i:=by simp [metL,h]
theorem nU (h:x < n):metL n (p.addL x)=(metL n p).set x true:=by
 refine ld false (by simp [metL]) fun i hi=> ?_
 rw [cC]at hi
 rw [e8 hi,qZ (by rw [cC];exact h)]
 by_cases e:x=i
 ·subst e;rw [if_pos rfl];simp [PlD.has,PlD.addL]
 ·rw [if_neg e,e8 hi]
  have:¬i=x:=fun h=>e h.symm
  exact Bool.eq_iff_iff.2 (by rw [AV,AV];simp [PlD.addL,this])
theorem nW (h:x < n):metL n (p.addS mk x s)=(metL n p).set x true:=by
 refine ld false (by simp [metL]) fun i hi=> ?_
 rw [cC]at hi
 rw [e8 hi,qZ (by rw [cC];exact h)]
 by_cases e:x=i
 ·subst e;rw [if_pos rfl];simp [PlD.has,PlD.addS]
 ·rw [if_neg e,e8 hi]
  have:¬i=x:=fun h=>e h.symm
  exact Bool.eq_iff_iff.2 (by rw [AV,AV];simp [PlD.addS,this])
theorem nX {l:List Bool} {i j:Nat} (h:l.getD j true=true):(l.set i true).getD j true=true:=by
 rw [List.getD_eq_getElem?_getD,List.getElem?_set]
 split
 ·split <;>simp
 ·rwa [List.getD_eq_getElem?_getD]at h
theorem NxtOk.lookd (h:NxtOk blk p Y) (i:Nat):NxtOk blk (p.looked i) Y:=fun c=>by
 obtain ⟨ds,h1,h2⟩:=h c
 exact ⟨ds,h1,fun j hj=>nX (h2 j hj)⟩
theorem NxtOk.addS (h:NxtOk blk p Y) (hb:p.begins.length=p.small.length) (hl:p.lk.length=p.small.length):NxtOk blk (p.addS mk x s) (fun y=>if y=((p.top/blk:Nat):Int)then Y ((p.top/blk:Nat):Int)++ [p.small.length]else Y y):=fun c=>by
 obtain ⟨ds,h1,h2⟩:=h c
 refine ⟨ds,?_,fun i hi=> ?_⟩
 ·have hsl:(p.addS mk x s).small.length=p.small.length+1:=by simp [PlD.addS]
  have hbg:∀i,i < p.small.length→(p.addS mk x s).begins.getD i 0=p.begins.getD i 0:=fun i hi=>dN oM
  have hbn:(p.addS mk x s).begins.getD p.small.length 0=p.top:=by
   show (p.begins++ [p.top]).getD p.small.length 0=p.top
   rw [eT oM,hb];simp
  have e1:da blk (p.addS mk x s) c=da blk p c++(if p.top/blk=c then [p.small.length]else []):=by
   unfold da
   rw [hsl,List.range_succ,List.filter_append]
   congr 1
   ·refine List.filter_congr fun i hi=> ?_
    rw [hbg i (List.mem_range.1 hi)]
   ·simp only [List.filter_cons,List.filter_nil,hbn]
    by_cases hc:p.top/blk=c
    ·simp [hc]
    ·simp [hc]
  rw [e1,h1]
  show _=ds++(if ((c:Nat):Int)=((p.top/blk:Nat):Int)then Y ((p.top/blk:Nat):Int)++ [p.small.length]else Y c)
  by_cases hc:p.top/blk=c
  ·rw [if_pos hc,if_pos oM,hc,List.append_assoc]
  ·rw [if_neg hc,if_neg oM,List.append_nil]
 ·have hlt : i < p.small.length := by
   have h3:i∈da blk p c:=by rw [h1];exact List.mem_append_left _ hi
   exact List.mem_range.1 (List.mem_filter.1 h3).1
  simp only [PlD.addS]
  rw [dN oM]
  exact h2 i hi
theorem NxtOk.len (h:NxtOk blk p Y) (c:Nat):(Y c).length≤p.small.length:=by
 obtain ⟨ds,h1,_⟩:=h c
 have h2:(da blk p c).length≤p.small.length:=by
  have:=List.length_filter_le (fun i=>decide (p.begins.getD i 0/blk=c)) (List.range p.small.length)
  simpa [da]using this
 rw [h1,List.length_append]at h2
 omega
theorem NxtOk.lt (h:NxtOk blk p Y) (c:Nat) {i:Nat} (hi:i∈Y c):i < p.small.length:=by
 obtain ⟨ds,h1,_⟩:=h c
 have h3:i∈da blk p c:=by rw [h1];exact List.mem_append_right _ hi
 exact List.mem_range.1 (List.mem_filter.1 h3).1
theorem Fst.addS (h:Fst p fi) (hl:p.lk.length=p.small.length):Fst (p.addS mk x s) fi:=by
 refine ⟨by simp only [PlD.addS,List.length_append];have:=h.1;omega,fun i hi=> ?_⟩
 simp only [PlD.addS]
 rw [dN (by have:=h.1;omega)]
 exact h.2 i hi
theorem Fst.lookd (h:Fst p fi) (i:Nat):Fst (p.looked i) fi:=⟨h.1,fun j hj=>nX (h.2 j hj)⟩
end
structure PQ (V0:World) (G:GraphD) (lim blk b:Nat) (sv bv kv lv pv mv:Value) (mp nm:Nat) (f:Int→Value) (Y:Int→List Nat) (K fi:Nat) (p:PlD) (w:World):Prop where
 cel:w.heap[b]?=some (.cells #[.slice G.nA G.ns.length G.ncap,.slice G.rA G.rs.length G.rcap,.int .i64 lim,.int .i64 blk,mv,sv,lv,bv,.int .i64 p.top,pv,.map (some mp),.int .i64 fi,kv] 202 (0,0))
 pr:PR V0 sv bv kv lv pv mv mp nm f Y (metL G.ns.length p) p w
 lo:V0.heap.size≤b
 nx:NxtOk blk p Y
 nmk:nm≤K+p.met
 fst:Fst p fi
section
variable {V0 : World} {G : GraphD} {lim blk b : Nat} {sv bv kv lv pv mv : Value} {mp nm : Nat} {f : Int → Value} {Y : Int → List Nat} {K fi : Nat} {p : PlD} {w w' : World}
theorem PQ.grow (h:PQ V0 G lim blk b sv bv kv lv pv mv mp nm f Y K fi p w) (hx:Ext w w'):PQ V0 G lim blk b sv bv kv lv pv mv mp nm f Y K fi p w':=
 ⟨(hx.block (aA h.cel)).trans h.cel,h.pr.grow hx,h.lo,h.nx,h.nmk,h.fst⟩
end
def PP (V0:World) (G:GraphD) (lim blk b K:Nat) (p:PlD) (w:World):Prop:=∃sv bv kv lv pv mv mp nm f Y fi,PQ V0 G lim blk b sv bv kv lv pv mv mp nm f Y K fi p w
theorem PP.grow {V0 w w':World} {G:GraphD} {lim blk b K:Nat} {p:PlD} (h:PP V0 G lim blk b K p w) (hx:Ext w w'):PP V0 G lim blk b K p w':=by
 obtain ⟨sv,bv,kv,lv,pv,mv,mp,nm,f,Y,fi,h⟩:=h
 exact ⟨sv,bv,kv,lv,pv,mv,mp,nm,f,Y,fi,h.grow hx⟩
theorem PP.ext {V0 w:World} {G:GraphD} {lim blk b K:Nat} {p:PlD} (h:PP V0 G lim blk b K p w):Ext V0 w:=by
 obtain ⟨sv,bv,kv,lv,pv,mv,mp,nm,f,Y,fi,h⟩:=h
 exact h.pr.ext
theorem PP.mono {V0 w:World} {G:GraphD} {lim blk b K K2:Nat} {p:PlD} (h:PP V0 G lim blk b K p w) (hk:K≤K2):PP V0 G lim blk b K2 p w:=by
 obtain ⟨sv,bv,kv,lv,pv,mv,mp,nm,f,Y,fi,h⟩:=h
 exact ⟨sv,bv,kv,lv,pv,mv,mp,nm,f,Y,fi,h.cel,h.pr,h.lo,h.nx,by have:=h.nmk;omega,h.fst⟩
section
variable {G : GraphD} {lim blk : Nat} {V : World}
theorem PP.new {V0:World} {b mp:Nat} {mv:Value} {w:World} (ho:Own 4 1 dv w V0.heap.size mv (List.replicate G.ns.length false)) (hm:MapV w mp 0 (fun _=> .slice none 0 0)) (hml:V0.heap.size≤mp) (hx:Ext V0 w)
  (hb:w.heap[b]?=some (.cells #[.slice G.nA G.ns.length G.ncap,.slice G.rA G.rs.length G.rcap,.int .i64 lim,.int .i64 blk,mv,.slice none 0 0,.slice none 0 0,.slice none 0 0,.int .i64 0,.slice none 0 0,.map (some mp),.int .i64 0,.slice none 0 0] 202 (0,0))) (hlo:V0.heap.size≤b):PP V0 G lim blk b 0 PlD.new w:=by
 have hml':metL G.ns.length PlD.new=List.replicate G.ns.length false:=ld false (by simp [metL]) fun i hi=>by
  rw [cC]at hi
  rw [e8 hi]
  simp [PlD.has,PlD.new,hi]
 refine ⟨_,_,_,_,_,mv,mp,0,fun _=> .slice none 0 0,fun _=> [],0,hb,⟨AM _ _ _ _ _,AM _ _ _ _ _,AM _ _ _ _ _,AM _ _ _ _ _,AM _ _ _ _ _,by rw [hml'];exact ho,hm,fun _=>OwnO.nil _ _,?_,?_,?_,hml,hx⟩,hlo,?_,by simp,⟨by simp,by omega⟩⟩
 ·intro i j x y g hi hj hij hx hy
  have key:∀k z,[Value.slice none 0 0,.slice none 0 0,.slice none 0 0,.slice none 0 0,.slice none 0 0,mv][k]?=some z→z.ownBlock=some g→k=5:=by
   intro k z hk hz
   match k,hk with
   | 0,hk=>injection hk with hk;subst hk;cases hz
   | 1,hk=>injection hk with hk;subst hk;cases hz
   | 2,hk=>injection hk with hk;subst hk;cases hz
   | 3,hk=>injection hk with hk;subst hk;cases hz
   | 4,hk=>injection hk with hk;subst hk;cases hz
   | 5,hk=>rfl
   | k+6,hk=>simp at hk
  exact hij ((key i x hi hx).trans (key j y hj hy).symm)
 ·intro v hv c g hvg hfg
  cases hfg
 ·intro c c' g hc h1
  cases h1
 ·intro c
  exact ⟨[],by simp [da,PlD.new],by simp⟩
theorem qo (hV:GraphAt V G) (hG:RchG G lim blk):
  Calls Tryz.prog 157 #[.agg #[.slice G.nA G.ns.length G.ncap,.slice G.rA G.rs.length G.rcap],.int .i64 lim,.int .i64 blk] V fun e w'=>∃b,e= .returned (.pointer (some ⟨b,0,none⟩))∧PP V G lim blk b 0 PlD.new w':=by
 have hx0:=(AD V).alloc (.cells #[.slice G.nA G.ns.length G.ncap,.slice G.rA G.rs.length G.rcap] 27)
 have hBx:=aG V #[.slice G.nA G.ns.length G.ncap,.slice G.rA G.rs.length G.rcap] 27 _ rfl
 have HX:=zH hx0
 have HN:=zH hG.n
 have HVS:Hid (V.heap.size≤V.heap.size):=zH (Nat.le_refl _)
 clear hx0 hV hG
 go_enter Tryz.func157,Tryz.ntmps157
 go_wp2_with fail
 generalize V.alloc (.cells #[.slice G.nA G.ns.length G.ncap,.slice G.rA G.rs.length G.rcap] 27)=W at*
 have hyd:=(AD W).drew
 have hGP:BoxK V.heap.size #[.slice G.nA G.ns.length G.ncap,.slice G.rA G.rs.length G.rcap] 27 W.drew:=(hBx.re hyd).here
 have gB:=hGP.cells
 (refine dJ (w:=W) (fun w'=>∃u:KeptOf (W).drew (BoxK V.heap.size #[.slice G.nA G.ns.length G.ncap,.slice G.rA G.rs.length G.rcap] 27),w'=u.1) (.rd [0,1,2,3,4,5] (.fk 6 (.one 7 .tl) 7 (.one 6 .tl))) [8,9,10] kR kR (by intro c a d v w h;first | exact h | (cases d <;>first | exact h | (cases h;done) | cases h.1.1 | cases h.1)) (ak hGP) ?_)
 (refine iv ?_;(try simp only [aI,List.map_cons,List.map_nil,List.getD_cons_zero,List.getD_cons_succ]);(repeat (go_big_quiet_step (fail)));refine wpQuiet_nil ?_)
 refine si ?_ ?_
 ·refine cM gD rM ?_
  intro K hK
  refine qn (.tmp 12) rfl G.ns.length rM (by have:=HN.out;omega) ?_
  intro wN ho hy
  have HO:=zH (ho.mono (B':=V.heap.size) (HX.out.trans hyd).size)
  refine hK _ _ _ (fun _ h=>h) (ak (hGP.ext hy)) ?_
  clear hK K ho
  (refine cM gD rM ?_;intro K hK;go_simp)
  refine hK _ _ _ (fun _ h=>h) (ak ((hGP.ext hy).ext ((AD _).alloc _))) ?_
  clear hK K gB
  (refine kf ?_;(try simp only [aI,List.map_cons,List.map_nil,List.getD_cons_zero,List.getD_cons_succ]))
  have HXN:=zH ((HX.out.trans hyd).trans hy)
  have HM:=zH (MapV.made wN)
  have HOX:=zH (HO.out.ext ((AD wN).alloc (.map #[] 0)))
  have HBX:=zH (((hGP.ext hy).ext ((AD _).alloc (.map #[] 0))))
  clear HO hy hyd hGP
  go_wp2_with fail
  go_ret
  exact ⟨wN.heap.size+1,rfl,PP.new (HOX.out.ext ((AD _).alloc _)) (HM.out.ext ((AD _).alloc _)) HXN.out.size ((HXN.out.alloc _).alloc _) (aR _ _ _ _ sM) (by have:=HXN.out.size;omega)⟩
 ·(refine cM gD rM ?_;intro K hK;go_simp)
  refine hK _ _ _ (fun _ h=>h) (ak (hGP.ext ((AD W.drew).alloc (.map #[] 0)))) ?_
  clear hK K gB
  have hGP2:=hGP.ext ((AD W.drew).alloc (.map #[] 0))
  have HM:=zH (MapV.made W.drew)
  have hx2:=(HX.out.trans hyd).alloc (.map #[] 0)
  have hms:=(HX.out.trans hyd).size
  refine cM gD rM ?_
  intro K hK
  refine qn (.tmp 12) rfl G.ns.length rM (by have:=HN.out;omega) ?_
  intro wN ho hy
  replace hy:Ext (W.drew.alloc (.map #[] 0)) wN:=hy
  replace ho:Own 4 1 dv wN V.heap.size (.slice (some ⟨(W.drew.alloc (.map #[] 0)).heap.size,0,none⟩) G.ns.length G.ns.length) (List.replicate G.ns.length false):=ho.mono hx2.size
  have HO:=zH ho
  refine hK _ _ _ (fun _ h=>h) (ak (hGP2.ext hy)) ?_
  clear hK K ho
  (refine kf ?_;(try simp only [aI,List.map_cons,List.map_nil,List.getD_cons_zero,List.getD_cons_succ]))
  have HXN:=zH (hx2.trans hy)
  replace HM:=zH (HM.out.ext hy)
  have HMS:=zH hms
  clear hy hyd hGP hGP2 hx2 hms
  go_wp2_with fail
  go_ret
  have ho:=HO.out
  rw [show (W.drew.alloc (.map #[] 0)).heap.size=W.heap.size+1 by simp]at ho
  have hm:MapV wN W.heap.size 0 (fun _=> .slice none 0 0):=HM.out
  exact ⟨wN.heap.size,rfl,PP.new (ho.ext ((AD _).alloc _)) (hm.ext ((AD _).alloc _)) HMS.out (HXN.out.alloc _) (aR _ _ _ _ rfl) HXN.out.size⟩
end
end Go.Proofs.YtphpppjfogpohaaGreat
