/- Merged by program (merge.py) out of: Opens. -/
import Derived.Deep.Slices
import Derived.SizedLaws
import Derived.Test.YtemmjmplhknemaaMp5
set_option linter.unusedSimpArgs false
set_option linter.unusedVariables false
set_option maxRecDepth 100000
set_option maxHeartbeats 16000000
namespace Go.Proofs.Ytemmjmplhknemaa
open Go.RowKit
section
open Go.WideShapes Go.ChangeShapes Go.ChangeAt Go.Joins Go.Deep
variable {H : Type} {P : Program}
def WOK (P:Program) (t:TypeId) (d:DataW H):Prop:=∀n∈d.weights P t,n≤reachBytes
theorem WOK.of_each {ts:List TypeId} {ds:List (DataW H)} (h:(DataW.weightsEach P ts ds).all (·≤reachBytes)=true) {j:Nat} {t:TypeId} {d:DataW H} (ht:ts[j]?=some t) (hd:ds[j]?=some d):WOK P t d:=fun n hn=>by
 have:=List.all_eq_true.1 h _ (DataW.weights_mem_each ht hd n hn)
 simpa using this
theorem weightsAll_in {e:TypeId}:∀ {ds:List (DataW H)} {d:DataW H},d∈ds→∀n∈d.weights P e,n∈DataW.weightsAll P e ds
 | d0::ds,d,hd,n,hn=>by
  simp only [DataW.weightsAll,List.mem_append]
  rcases List.mem_cons.1 hd with rfl | h
  ·exact Or.inl hn
  ·exact Or.inr (weightsAll_in h n hn)
theorem WOK.slice {t e:TypeId} {es sp:List (DataW H)} (hu:P.underlying t=some (.slice e)) (h:WOK P t (.slice es sp)):(es.length+sp.length)*P.bytesOf e≤reachBytes∧∀D∈es,WOK P e D:=by
 refine ⟨h _ (by simp [DataW.weights,hu]),fun D hD n hn=>h n ?_⟩
 simp only [DataW.weights,hu,List.mem_cons,List.mem_append]
 exact Or.inr (Or.inl (weightsAll_in hD n hn))
theorem WOK.part {t:TypeId} {fs:Array Field} {ds:List (DataW H)} (hu:P.underlying t=some (.struct fs)) (h:WOK P t (.agg ds)) {j:Nat} {f:Field} {D:DataW H} (hf:fs[j]?=some f) (hd:ds[j]?=some D):WOK P f.type D:=fun n hn=>by
 refine h n ?_
 simp only [DataW.weights,hu]
 exact DataW.weights_mem_each (j:=j) (by simp [hf]) hd n hn
variable {enc : TypeId × Value → H} {w : World} {base : Nat} {spare : Nat → Bool} {held : Bool}
def Opens (enc:TypeId×Value→H) (P:Program) (w:World) (base:Nat) (spare:Nat→Bool) (held:Bool) (t:TypeId) {α:Type} (f:α→List Value) (Q:α→Prop):Prop:=
 ∀fuel cs d p,DataW.trod enc P w base spare held fuel t cs=some (d,p)→WOK P t d→∃x,cs=f x∧Q x
theorem Opens.map {t:TypeId} {α β:Type} {f:α→List Value} {g:β→List Value} {Q:α→Prop} {R:β→Prop} (h:Opens enc P w base spare held t f Q) (m:α→β) (hf:∀x,f x=g (m x)) (hq:∀x,Q x→R (m x)):Opens enc P w base spare held t g R:=by
 intro fuel cs d p hd hw
 obtain ⟨x,h1,h2⟩:=h fuel cs d p hd hw
 exact ⟨m x,h1.trans (hf x),hq x h2⟩
theorem opens_int {t:TypeId} (ht:P.underlying t=some (.int .i64)):Opens enc P w base spare held t (fun z:Int=> [.int .i64 z]) (fun z=> -9223372036854775808≤z∧z≤9223372036854775807):=by
 intro fuel cs d p hd _
 obtain ⟨n,h1, -,h2⟩:=DataW.trod_int ht hd
 exact ⟨n,h1,i64_bd h2⟩
theorem opens_u64 {t:TypeId} (ht:P.underlying t=some (.int .u64)):Opens enc P w base spare held t (fun z:Int=> [.int .u64 z]) (fun z=>0≤z∧z < 18446744073709551616):=by
 intro fuel cs d p hd _
 obtain ⟨n,h1, -,h2⟩:=DataW.trod_int ht hd
 have:0≤n∧n≤18446744073709551615:=by simpa [Lit.wf,IntKind.min,IntKind.max,IntKind.signed,IntKind.bits]using h2
 exact ⟨n,h1,by omega⟩
theorem opens_bool {t:TypeId} (ht:P.underlying t=some .bool):Opens enc P w base spare held t (fun b:Bool=> [.bool b]) (fun _=>True):=by
 intro fuel cs d p hd _
 obtain ⟨b,h1, -⟩:=DataW.trod_bool ht hd
 exact ⟨b,h1,trivial⟩
structure Sl (α:Type) where
 A:Option Addr
 cap:Nat
 xs:List α
def slC {α:Type} (s:Sl α):List Value:= [.slice s.A s.xs.length s.cap]
structure SlAt {α:Type} (n k:Nat) (f:α→List Value) (Q:α→Prop) (w:World) (s:Sl α):Prop where
 row:RowAt n f w s.A s.xs
 nn:s.A=none→s.cap=0
 len:s.xs.length≤s.cap
 wt:s.xs.length*k≤140737488351232
 each:∀x∈s.xs,Q x
theorem opens_slice {t e:TypeId} {n k:Nat} {α:Type} {f:α→List Value} {Q:α→Prop} (ht:P.underlying t=some (.slice e)) (hn:P.cellsOf e=n) (hk:P.bytesOf e=k) (hpos:0 < n) (ho:Opens enc P w base spare held e f Q):
  Opens enc P w base spare held t (slC (α:=α)) (SlAt n k f Q w):=by
 intro fuel cs d p hd hw
 rcases open_slice ht hd with ⟨rfl,hx⟩ | ⟨a,len,cap,m,q,D,Pl,rfl,hb,hl,hm,hmm,hx,hel⟩
 ·exact ⟨⟨none,0,[]⟩,rfl,RowAt.none _ _ _,fun _=>rfl,Nat.le_refl _,by simp,by simp⟩
 ·injection hx with hx _
  subst hx
  obtain ⟨hwl,hwe⟩:=hw.slice ht
  rw [hk]at hwl
  have hlm:len≤m:=by rw [hmm];split <;>omega
  have each:∀i,i < len→∃x:α,Q x∧∀j v,(f x)[j]?=some v→w.cell? (a.add (i*n+j))=some v:=fun i hi=>by
   obtain ⟨cs',h1,h2⟩:=hel i (by omega)
   obtain ⟨x,rfl,hQ⟩:=ho _ _ _ _ h2 (hwe _ (List.mem_map.2 ⟨i,List.mem_range.2 hi,rfl⟩))
   rw [hn]at h1
   obtain ⟨-,hlen,hc⟩:=World.cells?_some h1
   refine ⟨x,hQ,fun j v hv=> ?_⟩
   have hj:j < n:=by rw [←hlen];exact (List.getElem?_eq_some_iff.1 hv).1
   have:=hc j hj
   rw [add_add]at this
   rw [this,hv]
  obtain ⟨g,hg⟩:∃g:Nat→Option α,∀i,i < len→∃x,g i=some x∧Q x∧∀j v,(f x)[j]?=some v→w.cell? (a.add (i*n+j))=some v:=
   ⟨fun i=>if h:i < len then some (Classical.choose (each i h))else none,fun i hi=>⟨Classical.choose (each i hi),by simp [hi],Classical.choose_spec (each i hi)⟩⟩
  have hlt:(List.range len).length=len:=by simp
  obtain ⟨xs,hxl,hxs⟩:∃xs:List α,xs.length=len∧∀i x,xs[i]?=some x→i < len∧g i=some x:=by
   refine ⟨(List.range len).attach.map fun i=>(g i.1).get (by
    obtain ⟨x,h1,_⟩:=hg i.1 (List.mem_range.1 i.2)
    simp [h1]),by simp,fun i x hx=> ?_⟩
   obtain ⟨h1,h2⟩:=List.getElem?_eq_some_iff.1 hx
   have hi:i < len:=by simpa using h1
   refine ⟨hi,?_⟩
   rw [←h2]
   simp
  refine ⟨⟨some a,cap,xs⟩,by simp [slC,hxl],?_,by simp,by simp only [hxl];exact hl,?_,fun x hx=> ?_⟩
  ·by_cases h0:0 < len
   ·obtain ⟨cs',h1,h2⟩:=hel 0 (by omega)
    rw [hn]at h1
    obtain ⟨-,hlen,hc⟩:=World.cells?_some h1
    have hs:a.spot=none:=by
     have h3:=hc 0 hpos
     rw [add_add,List.getElem?_eq_getElem (by omega)]at h3
     have:=World.cell?_spot h3
     simpa [Addr.add]using this
    obtain ⟨b,off,sp⟩:=a
    simp only at hs
    subst hs
    have hadd:∀k,(⟨b,off,none⟩:Addr).add k=⟨b,off+k,none⟩:=fun k=>by unfold Addr.add;split <;>simp_all
    refine ⟨b,off,fun _=>rfl,fun i x hx j v hv=> ?_⟩
    obtain ⟨hi,hgi⟩:=hxs i x hx
    obtain ⟨y,h4, -,h5⟩:=hg i hi
    rw [hgi]at h4
    injection h4 with h4
    subst h4
    have:=h5 j v hv
    rw [hadd]at this
    rw [Nat.add_assoc];exact this
   ·have:xs= []:=List.eq_nil_of_length_eq_zero (by omega)
    simp only [this]
    exact RowAt.none _ _ _
  ·simp only [hxl]
   have:(List.map D (List.range len)).length=len:=by simp
   have e:reachBytes=140737488351232:=by decide
   rw [this,e]at hwl
   exact Nat.le_trans (Nat.mul_le_mul_right _ (by omega)) hwl
  ·obtain ⟨i,hi⟩:=List.mem_iff_getElem?.1 hx
   obtain ⟨h1,h2⟩:=hxs i x hi
   obtain ⟨y,h3,h4, -⟩:=hg i h1
   rw [h2]at h3
   injection h3 with h3
   subst h3
   exact h4
def FieldsOpen (enc:TypeId×Value→H) (P:Program) (w:World) (base:Nat) (spare:Nat→Bool) (held:Bool) (fs:List Field) (off:Nat) {α:Type} (f:α→List Value) (Q:α→Prop):Prop:=
 ∀(cs:List Value) (ds:List (DataW H)),cs.length=(fs.map fun x=>P.cellsOf x.type).sum→ds.length=fs.length→
  (∀(j:Nat) (x:Field) (d:DataW H),fs[j]?=some x→ds[j]?=some d→∃n p,DataW.trod enc P w base spare held n x.type ((cs.drop (x.offset - off)).take (P.cellsOf x.type))=some (d,p)∧WOK P x.type d)→∃x,cs=f x∧Q x
theorem fields_nil {off:Nat}:FieldsOpen enc P w base spare held [] off (fun _:Unit=> []) (fun _=>True):=by
 intro cs ds hc _ _
 exact ⟨(),List.eq_nil_of_length_eq_zero (by simpa using hc),trivial⟩
theorem fields_cons {x:Field} {fs:List Field} {off c:Nat} {α β:Type} {f:α→List Value} {g:β→List Value} {Q:α→Prop} {R:β→Prop} (h:Opens enc P w base spare held x.type f Q) (hc:P.cellsOf x.type=c) (hoff:x.offset=off)
  (hfs:(fs.all fun y=>decide (off+c≤y.offset))=true) (hr:FieldsOpen enc P w base spare held fs (off+c) g R):FieldsOpen enc P w base spare held (x::fs) off (fun z:α×β=>f z.1++g z.2) (fun z=>Q z.1∧R z.2):=by
 intro cs ds hlen hdl hel
 match ds,hdl with
 | d::ds,hdl=>
  obtain ⟨n,p,h1,h2⟩:=hel 0 x d rfl rfl
  rw [hoff,Nat.sub_self,List.drop_zero,hc]at h1
  obtain ⟨z,hz,hQ⟩:=h _ _ _ _ h1 h2
  simp only [List.map_cons,List.sum_cons,hc]at hlen
  obtain ⟨y,hy,hR⟩:=hr (cs.drop c) ds (by rw [List.length_drop];omega) (by simpa using hdl) (fun j f' d' hf hd=>by
   obtain ⟨n,p,h3,h4⟩:=hel (j+1) f' d' (by simpa using hf) (by simpa using hd)
   refine ⟨n,p,?_,h4⟩
   have hle:off+c≤f'.offset:=by
    have:=List.all_eq_true.1 hfs f' (List.mem_of_getElem? hf)
    simpa using this
   rw [List.drop_drop,show c+(f'.offset - (off+c))=f'.offset - off by omega]
   exact h3)
  exact ⟨(z,y),by show cs=f z++g y;rw [←hz,←hy,List.take_append_drop],hQ,hR⟩
theorem opens_struct {t:TypeId} {fs:Array Field} {α:Type} {f:α→List Value} {Q:α→Prop} (hs:P.underlying t=some (.struct fs)) (hC:P.cellsOf t=(fs.toList.map fun x=>P.cellsOf x.type).sum) (h:FieldsOpen enc P w base spare held fs.toList 0 f Q):
  Opens enc P w base spare held t f Q:=by
 intro fuel cs d p hd hw
 obtain ⟨xs,n, -,hx,hl,hxl,hf⟩:=DataW.trod_struct hs hd
 injection hx with hx _
 subst hx
 refine h cs (xs.map (·.1)) (hl.trans hC) (by simpa using hxl) (fun j f' d' hf' hd'=> ?_)
 have hfa:fs[j]?=some f':=by simpa using hf'
 rw [List.getElem?_map,Option.map_eq_some_iff]at hd'
 obtain ⟨y,hy,rfl⟩:=hd'
 refine ⟨n,y.2,?_,hw.part hs hfa (by simp [hy])⟩
 rw [Nat.sub_zero,hf j f' hfa,hy]
theorem Opens.agg {t:TypeId} {fs:Array Field} {α:Type} {f:α→List Value} {Q:α→Prop} {v:Value} {r:Reach} {b0:Nat} {d:DataW H} {p:List MemPlace} (h:Opens enc P w base spare held t f Q) (hs:P.underlying t=some (.struct fs)) (hv:Value.okWide P w r b0 t v)
  (hd:DataW.Trod enc P w base spare held t v d p) (hw:WOK P t d):∃x,v= .agg (f x).toArray∧Q x:=by
 obtain ⟨cs,rfl, -⟩:=okWide_struct hs hv
 obtain ⟨fuel,hf⟩:=hd
 obtain ⟨x,h1,h2⟩:=h _ _ _ _ hf hw
 refine ⟨x,?_,h2⟩
 have:cs.toList=f x:=h1
 rw [←this]
end
end Go.Proofs.Ytemmjmplhknemaa
