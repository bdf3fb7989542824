/- Merged by program (merge.py) out of: MapI, GraS, RenC, RenL, GraT, GraU, RchA, Gbx. -/
import Derived.Test.YtphpppjfogpohaaGreatMy0
import Derived.Test.YtphpppjfogpohaaGreatMy34
import Derived.Test.YtphpppjfogpohaaGreatMy22
import Derived.Test.YtphpppjfogpohaaGreatMy7
import Derived.Test.YtphpppjfogpohaaGreatMy32
import Derived.Test.YtphpppjfogpohaaGreatMy4
set_option linter.unusedSimpArgs false
set_option linter.unusedVariables false
set_option maxRecDepth 100000
set_option maxHeartbeats 16000000
namespace Go.Proofs.YtphpppjfogpohaaGreat
open Go.RowKit Go.Shelf Go.Maps
theorem tG (w:World):(zeroValue 3).run Tryz.prog w= .ok (.int .i64 0) w:=by kernel_rfl
def MapOf (w:World) (b n:Nat) (f:Int→Option Int):Prop:=
 ∃D:DataW Unit,w.ownsMap Tryz.prog 3 (plainElem Tryz.prog 3) b n D∧IsMap D∧∀x,Maps.has D (keyI x)=(f x).isSome∧D.atKey (keyI x) (.lit (.int .i64 0))= .lit (.int .i64 ((f x).getD 0))
section
variable {w w' : World} {b n : Nat} {f : Int → Option Int}
theorem MapOf.made (w:World):MapOf (w.alloc (.map #[] 0)) w.heap.size 0 (fun _=>none):=
 ⟨.map [],World.ownsMap_made _ _ _ _,isMap_empty,fun x=>⟨rfl,rfl⟩⟩
theorem MapOf.kept {row:Option Nat} (h:MapOf w b n f) (hg:w.grownBy w' row) (hne:some b≠row):MapOf w' b n f:=by
 obtain ⟨D,h1,h2⟩:=h;exact ⟨D,h1.kept hg hne,h2⟩
theorem MapOf.ext (h:MapOf w b n f) (hx:Ext w w'):MapOf w' b n f:=by
 obtain ⟨D,⟨es,clock,hb,r⟩,h2⟩:=h
 exact ⟨D,⟨es,clock,(hx.block (Array.getElem?_eq_some_iff.1 hb).1).trans hb,r⟩,h2⟩
theorem MapOf.setCell (h:MapOf w b n f) {a:Addr} (ha:b≠a.block) (u:Value):MapOf (w.setCell a u) b n f:=by
 obtain ⟨D,h1,h2⟩:=h;exact ⟨D,h1.setCell ha u,h2⟩
variable {ops : Array Oper} {rest : List Oper} {o : Oper} {a : Act} {Q : Exit → Act → World → Prop}
theorem bp (hg:o.guard=none) (m x:Operand) (hop:o.op=Op.lookup 100 m x true) (h:MapOf w b n f) (hm:a.eval m= .map (some b)) (k:Int) (hx:a.eval x= .int .i64 k) (hk:(Lit.int .i64 k).wf=true)
  (hK:wpList Tryz.prog ops Q rest (a.put o.dst (.tuple #[.int .i64 ((f k).getD 0),.bool (f k).isSome])) w):wpList Tryz.prog ops Q (o::rest) a w:=by
 obtain ⟨D,h1,h2,h3⟩:=h
 refine wpList_lookup_own_ok_int w hg m x 100 hop 3 3 .i64 eB Tryz.underlying100 Tryz.underlying3 (tG w) b n D hm h1 (.int .i64 k) (keyI k) hx (keyOf_int_mk Tryz.underlying3 hk) ?_
 intro c hat hwc
 obtain ⟨e1,e2⟩:=h3 k
 rw [e2]at hat
 injection hat with hat
 injection hat with _ hat
 rw [←hat,e1]
 exact hK
theorem iB (hg:o.guard=none) (m x v:Operand) (hop:o.op=Op.mapUpdate 100 m x v) (h:MapOf w b n f) (hm:a.eval m= .map (some b)) (hn:n < maxLen) (k c:Int) (hx:a.eval x= .int .i64 k) (hv:a.eval v= .int .i64 c) (hk:(Lit.int .i64 k).wf=true) (hc:(Lit.int .i64 c).wf=true)
  (hK:∀w',MapOf w' b (n+1) (fun y=>if y=k then some c else f y)→w.grownBy w' (some b)→wpList Tryz.prog ops Q rest (a.put o.dst undef) w'):wpList Tryz.prog ops Q (o::rest) a w:=by
 obtain ⟨D,h1,h2,h3⟩:=h
 refine wpList_mapUpdate_own w hg m x v 100 hop 3 3 eB Tryz.underlying100 (plainElem Tryz.prog 3) b n D hm h1 hn (.int .i64 k) (.int .i64 c) (keyI k) hx hv (keyOf_int_mk Tryz.underlying3 hk) (.lit (.int .i64 c)) [] (plainElem_int Tryz.underlying3 hc) ?_
 intro w' ho hgr
 refine hK w' ⟨_,ho,h2.put _ _,fun y=> ?_⟩ hgr
 by_cases hy:y=k
 ·subst hy
  simp only [if_true]
  exact ⟨has_put_same h2 (show WideAt.IsKeyLit (keyI y)from trivial) _,atKey_put_same h2 (show WideAt.IsKeyLit (keyI y)from trivial) _ _⟩
 ·simp only [if_neg hy]
  have hne:keyI y≠keyI k:=fun e=>hy (by injection e)
  rw [has_put_other hne,atKey_put_other hne]
  exact h3 y
end
end Go.Proofs.YtphpppjfogpohaaGreat
namespace Go.Proofs.YtphpppjfogpohaaGreat
def pf (o:List Int) (k:Nat) (y:Int):Option Int:=if 0≤aY o y∧aY o y < k then some (aY o y)else none
theorem ud {o:List Int} {k:Nat} (hk:k < o.length):0≤aY o (o.getD k 0)∧aY o (o.getD k 0)≤k:=by
 rcases dD o (o.getD k 0)with ⟨_,h⟩ | ⟨j,hj,h,h1,h2⟩
 ·exact absurd rfl (h _ (aH hk))
 ·refine ⟨by omega,?_⟩
  rcases Nat.lt_or_ge k j with h3 | h3
  ·exact absurd rfl (h2 k h3)
  ·omega
theorem tH (o:List Int):pf o 0=fun _=>none:=by
 funext y
 unfold pf
 rw [if_neg oM]
theorem wS {o:List Int} {k:Nat} (hk:k < o.length):(pf o k (o.getD k 0)).isSome=decide (aY o (o.getD k 0)≠k):=by
 have:=ud hk
 unfold pf
 by_cases h:aY o (o.getD k 0)=k
 ·rw [if_neg oM,decide_eq_false (fun hn=>hn h)];rfl
 ·rw [if_pos oM,decide_eq_true h];rfl
theorem tI {o:List Int} {k:Nat} (hk:k < o.length) (h:aY o (o.getD k 0)=k):(fun y=>if y=o.getD k 0 then some (k:Int)else pf o k y)=pf o (k+1):=by
 funext y
 by_cases hy:y=o.getD k 0
 ·rw [if_pos hy,hy]
  unfold pf
  rw [if_pos oM,h]
 ·rw [if_neg hy]
  unfold pf
  have hne:aY o y≠k:=fun e=>by
   rcases dD o y with ⟨h1,_⟩ | ⟨j,hj,h1,h2,_⟩
   ·omega
   ·have:j=k:=by omega
    subst this
    exact hy h2.symm
  by_cases h2:0≤aY o y∧aY o y < k
  ·rw [if_pos h2,if_pos oM]
  ·rw [if_neg h2,if_neg oM]
theorem sI {o:List Int} (y:Int):pf o o.length y=if aY o y < 0 then none else some (aY o y):=by
 have:=po o y
 unfold pf
 by_cases h:aY o y < 0
 ·rw [if_neg oM,if_pos h]
 ·rw [if_pos oM,if_neg h]
theorem tJ {o:List Int} (y:Int):(pf o o.length y).isSome=decide (0≤aY o y):=by
 rw [sI]
 by_cases h:aY o y < 0
 ·rw [if_pos h];simp;omega
 ·rw [if_neg h];simp;omega
end Go.Proofs.YtphpppjfogpohaaGreat
namespace Go.Proofs.YtphpppjfogpohaaGreat
open Go.RowKit Go.Shelf
def blk (c:NodeD):Option Nat:=(Value.slice c.fA c.fields.length c.fcap).ownBlock
def Apart (l:List (Option Nat)):Prop:=l.Pairwise fun a b=>a=none∨a≠b
structure RenC (V:World) (Bo:Nat) (g0 g1:Value) (res:Array Value) (rs:List (Int×Int)) (cs:List NodeD) (v root:Value) (bm n:Nat) (f:Int→Option Int) (wr:World):Prop where
 base:CopI V Bo g0 g1 res rs cs v root wr
 map:MapOf wr bm n f
 sep:Apart (root.ownBlock::cs.map blk)
section
variable {V : World} {Bo bm n : Nat} {g0 g1 : Value} {res : Array Value} {rs : List (Int × Int)} {cs : List NodeD} {v root : Value} {f : Int → Option Int} {wr w' : World}
theorem RenC.grow (h:RenC V Bo g0 g1 res rs cs v root bm n f wr) (hx:Ext wr w'):RenC V Bo g0 g1 res rs cs v root bm n f w':=⟨h.base.grow hx,h.map.ext hx,h.sep⟩
theorem RenC.lt (h:RenC V Bo g0 g1 res rs cs v root bm n f wr):∀a∈root.ownBlock::cs.map blk,∀b,a=some b→b < wr.heap.size:=by
 intro a ha b hb
 rcases List.mem_cons.1 ha with rfl | ha
 ·exact (World.ownsRow.lt h.base.root b hb).2
 ·obtain ⟨c,hc,rfl⟩:=List.mem_map.1 ha
  exact (World.ownsRow.lt (h.base.each c hc).f b hb).2
theorem MapOf.ne_own {α:Type} {e:TypeId} {k:Nat} {g:α→List Value} {B:Nat} {u:Value} {xs:List α} (h:MapOf wr bm n f) (ho:Own e k g wr B u xs):some bm≠u.ownBlock:=fun heq=>by
 obtain ⟨D,⟨es,clock,hb,_⟩,_⟩:=h
 rcases ho.2 with ⟨hv,_⟩ | ⟨b2,cap,cur,hv,_,hg2,_⟩
 ·rw [hv]at heq;cases heq
 ·rw [hv]at heq
  have:bm=b2:=by simpa [Value.ownBlock]using heq
  subst this
  rw [hb]at hg2
  cases hg2
theorem MapOf.ne_cells (h:MapOf wr bm n f) {b:Nat} {ws:Array Value} {t:TypeId} {r:Nat×Nat} (hb:wr.heap[b]?=some (.cells ws t r)):bm≠b:=fun e=>by
 obtain ⟨D,⟨es,clock,hb',_⟩,_⟩:=h
 subst e
 rw [hb]at hb'
 cases hb'
theorem RenC.app (h:RenC V Bo g0 g1 res rs cs v root bm n f wr) {v':Value} {x:NodeD} (hown:Own 66 3 dv w' V.heap.size v' (cs++ [x])) (hg:wr.grownBy w' v.ownBlock) (hx:OwnN wr V.heap.size x)
  {N:Nat} (hN:∀a∈root.ownBlock::cs.map blk,∀b,a=some b→b < N) (hf:∀b,blk x=some b→N≤b):
  RenC V Bo g0 g1 res rs (cs++ [x]) v' root bm n f (w'.setCell ⟨Bo,0,none⟩ v'):=by
 refine ⟨h.base.app hown hg hx,(h.map.kept hg (h.map.ne_own h.base.own)).setCell (h.map.ne_cells h.base.out) _,?_⟩
 rw [List.map_append,←List.cons_append]
 refine List.pairwise_append.2 ⟨h.sep,by simp,fun a ha b hb=> ?_⟩
 rcases List.mem_singleton.1 hb with rfl
 cases a with
 | none=>exact .inl rfl
 | some k=>
  refine .inr fun e=> ?_
  have h1:=hN _ ha k rfl
  have h2:=hf k e.symm
  omega
end
structure VL where
 A:Option Addr
 cap:Nat
 xs:List (Int×Int)
instance :Inhabited VL:=⟨⟨none,0,[]⟩⟩
def vlC (l:VL):List Value:= [.slice l.A l.xs.length l.cap]
theorem tK:Cells 1 vlC:=⟨fun _=>rfl,fun x u h=>by simp [vlC]at h;subst h;rfl⟩
theorem yC:(Tryz.prog.info? 25).map (fun i=>(i.zero,i.size,i.bytes))=some (some (.slice none 0 0),1,24):=by kernel_rfl
theorem zD:Info Tryz.prog 186 25 1 24:=
 ⟨Tryz.underlying186,by obtain ⟨i0,hi,hz0,hz1,hz2⟩:=info_parts yC;exact ⟨i0,_,hi,hz0,hz1,hz2,rfl⟩,by decide⟩
def vlN (c:NodeD):VL:=⟨c.fA,c.fcap,c.fields⟩
def vblk (l:VL):Option Nat:=(Value.slice l.A l.xs.length l.cap).ownBlock
def mix (o:List Int) (q:Nat) (xs:List (Int×Int)):List (Int×Int):=(xs.take q).map (aj o)++xs.drop q
section
variable {o : List Int} {q : Nat} {xs : List (Int × Int)}
theorem oy:(mix o q xs).length=xs.length:=by simp [mix];omega
theorem wT:mix o 0 xs=xs:=by simp [mix]
theorem kI (h:xs.length≤q):mix o q xs=xs.map (aj o):=by simp [mix,List.take_of_length_le h,List.drop_eq_nil_of_le h]
theorem sJ (h:q < xs.length):mix o q xs=(xs.take q).map (aj o)++xs.getD q (0,0)::xs.drop (q+1):=by
 unfold mix
 rw [List.drop_eq_getElem_cons h]
 simp [h]
theorem qd (h:q < xs.length):mix o (q+1) xs=(xs.take q).map (aj o)++aj o (xs.getD q (0,0))::xs.drop (q+1):=by
 unfold mix
 rw [List.take_succ_eq_append_getElem h,List.map_append,List.append_assoc]
 simp [h]
end
theorem wU {w:World} {B g cap n:Nat} {cs rest:List (Int×Int)} {x:Int×Int} (h:Own 71 2 aa w B (.slice (some ⟨g,0,none⟩) n cap) (cs++x::rest)) (hn:(cs++x::rest).length=n) (z:Int):
  Own 71 2 aa (w.setCell ⟨g,cs.length*2+1,none⟩ (.int .i64 z)) B (.slice (some ⟨g,0,none⟩) n cap) (cs++(x.1,z)::rest):=by
 unfold Own at h⊢
 have hl:(cs++(x.1,z)::rest).length=n:=by rw [←hn];simp
 rw [hn]at h
 rw [hl]
 have h1:=(World.ownsRow.stored h (cs.length*2+1) (.int .i64 z)).1
 have h2:(cs++(x.1,z)::rest).flatMap aa=((cs++x::rest).flatMap aa).set (cs.length*2+1) (.int .i64 z):=by
  have hf:=cS aE cs
  simp only [List.flatMap_append,List.flatMap_cons,aa]
  rw [List.set_append_right _ _ oM,hf]
  simp
 rw [h2]
 exact h1
def vls (A1:Option Addr) (cap1:Nat) (rs:List (Int×Int)) (cs:List NodeD):List VL:=⟨A1,cap1,rs⟩::cs.map vlN
structure RenL (V:World) (Bo:Nat) (o:List Int) (rs:List (Int×Int)) (cs:List NodeD) (A:Option Addr) (cap:Nat) (A1:Option Addr) (cap1:Nat) (bm:Nat) (q:Nat→Nat) (L:List VL) (hv:Value) (wr:World):Prop where
 r:wr.heap[V.heap.size+1]?=some (.cells #[.slice none 0 0,.slice none 0 0] 27 (0,0))
 out:wr.heap[Bo]?=some (.cells #[.slice A cs.length cap,.slice A1 rs.length cap1] 27 (0,0))
 own:Own 66 3 dv wr V.heap.size (.slice A cs.length cap) cs
 raws:∀c∈cs,Own 61 1 u64C wr V.heap.size (.slice c.rA c.raws.length c.rcap) c.raws
 lists:∀i l,(vls A1 cap1 rs cs)[i]?=some l→Own 71 2 aa wr V.heap.size (.slice l.A l.xs.length l.cap) (mix o (q i) l.xs)
 sep:Apart ((vls A1 cap1 rs cs).map vblk)
 map:MapOf wr bm o.length (pf o o.length)
 heads:Own 25 1 vlC wr V.heap.size hv L
 ext:Ext V wr
 bo:V.heap.size+1 < Bo
section
variable {V : World} {Bo bm : Nat} {o : List Int} {rs : List (Int × Int)} {cs : List NodeD} {A A1 : Option Addr} {cap cap1 : Nat} {q : Nat → Nat} {L : List VL} {hv : Value} {wr w' : World}
theorem RenL.start {g0 g1:Value} (h:RenC V Bo g0 g1 #[.slice none 0 0,.slice none 0 0] rs cs (.slice A cs.length cap) (.slice A1 rs.length cap1) bm o.length (pf o o.length) wr):
  RenL V Bo o rs cs A cap A1 cap1 bm (fun _=>0) [⟨A1,cap1,rs⟩] (.slice (some ⟨wr.heap.size,0,none⟩) 1 1) (wr.alloc (.cells #[.slice A1 rs.length cap1] 25)):=by
 have hx:=(zo wr).alloc (.cells #[.slice A1 rs.length cap1] 25)
 have b:=h.base.grow hx
 refine ⟨b.r,b.out,b.own,fun c hc=>(b.each c hc).r,fun i l hl=> ?_,?_,h.map.ext hx,?_,b.ext,b.bo⟩
 ·rw [wT]
  cases i with
  | zero=>simp only [vls,List.getElem?_cons_zero,Option.some.injEq]at hl;subst hl;exact b.root
  | succ i=>
   simp only [vls,List.getElem?_cons_succ,List.getElem?_map,Option.map_eq_some_iff]at hl
   obtain ⟨c,hc,rfl⟩:=hl
   exact (b.each c (List.mem_of_getElem? hc)).f
 ·have:=h.sep
  rw [vls,List.map_cons,List.map_map]
  exact this
 ·refine ⟨by simp [vlC],.inr ⟨wr.heap.size,1,_,rfl,h.base.ext.size,World.alloc_heap_new _ _,Nat.le_refl _,by simp [maxLen],by simp,by simp [vlC]⟩⟩
theorem RenL.grow (h:RenL V Bo o rs cs A cap A1 cap1 bm q L hv wr) (hx:Ext wr w'):RenL V Bo o rs cs A cap A1 cap1 bm q L hv w':=
 ⟨(hx.block (aA h.r)).trans h.r,(hx.block (aA h.out)).trans h.out,h.own.ext hx,fun c hc=>(h.raws c hc).ext hx,fun i l hl=>(h.lists i l hl).ext hx,h.sep,h.map.ext hx,h.heads.ext hx,h.ext.trans hx,h.bo⟩
theorem RenL.app (h:RenL V Bo o rs cs A cap A1 cap1 bm q L hv wr) {hv':Value} {L':List VL} (hown:Own 25 1 vlC w' V.heap.size hv' L') (hg:wr.grownBy w' hv.ownBlock):RenL V Bo o rs cs A cap A1 cap1 bm q L' hv' w':=by
 have hty:∀(b:Nat) (ws:Array Value),wr.heap[b]?=some (.cells ws 27 (0,0))→w'.heap[b]?=some (.cells ws 27 (0,0)):=fun b ws hb=>
  (hg.block b (aA hb) (h.heads.ne_block hb dM)).trans hb
 exact ⟨hty _ _ h.r,hty _ _ h.out,h.own.keep2 h.heads dM hg,fun c hc=>(h.raws c hc).keep2 h.heads dM hg,fun i l hl=>(h.lists i l hl).keep2 h.heads dM hg,h.sep,h.map.kept hg (h.map.ne_own h.heads),hown,Own.grown h.heads hg (Nat.le_refl _) h.ext,h.bo⟩
theorem Apart.ne {l:List (Option Nat)} (h:Apart l) {i j g:Nat} {x:Option Nat} (hi:l[i]?=some (some g)) (hj:l[j]?=some x) (hne:j≠i):x≠some g:=by
 intro e
 subst e
 obtain ⟨hi1,hi2⟩:=List.getElem?_eq_some_iff.1 hi
 obtain ⟨hj1,hj2⟩:=List.getElem?_eq_some_iff.1 hj
 unfold Apart at h
 rw [List.pairwise_iff_getElem]at h
 rcases Nat.lt_or_ge i j with hlt | hge
 ·rcases h i j hi1 hj1 hlt with h | h
  ·rw [hi2]at h;cases h
  ·rw [hi2,hj2]at h;exact h rfl
 ·rcases h j i hj1 hi1 oM with h | h
  ·rw [hj2]at h;cases h
  ·rw [hi2,hj2]at h;exact h rfl
theorem RenL.re (h:RenL V Bo o rs cs A cap A1 cap1 bm q L hv wr) {q':Nat→Nat} (hq:∀i l,(vls A1 cap1 rs cs)[i]?=some l→mix o (q' i) l.xs=mix o (q i) l.xs):RenL V Bo o rs cs A cap A1 cap1 bm q' L hv wr:=
 ⟨h.r,h.out,h.own,h.raws,fun i l hl=>by rw [hq i l hl];exact h.lists i l hl,h.sep,h.map,h.heads,h.ext,h.bo⟩
theorem RenL.store (h:RenL V Bo o rs cs A cap A1 cap1 bm q L hv wr) {p k g:Nat} {l:VL} (hp:(vls A1 cap1 rs cs)[p]?=some l) (hA:l.A=some ⟨g,0,none⟩) (hk:k < l.xs.length) (hqp:q p=k) {z:Int} (hz:((l.xs.getD k (0,0)).1,z)=aj o (l.xs.getD k (0,0)))
  {q':Nat→Nat} (hq':q' p=k+1) (hqo:∀i,i≠p→q' i=q i):RenL V Bo o rs cs A cap A1 cap1 bm q' L hv (wr.setCell ⟨g,k*2+1,none⟩ (.int .i64 z)):=by
 obtain ⟨lA,lcap,xs⟩:=l
 simp only at hA hk hz
 subst hA
 have h0:=h.lists p _ hp
 simp only [hqp]at h0
 obtain ⟨cur,hg⟩:=ci h0
 have hB:V.heap.size≤g:=(World.ownsRow.lt h0 g rfl).1
 have hty:∀(b:Nat) (ws:Array Value),wr.heap[b]?=some (.cells ws 27 (0,0))→(wr.setCell ⟨g,k*2+1,none⟩ (.int .i64 z)).heap[b]?=some (.cells ws 27 (0,0)):=fun b ws hb=>
  (Below.heap_setCell wr ⟨g,k*2+1,none⟩ _ b (fun e=>by simp only at e;subst e;rw [hg]at hb;cases hb)).trans hb
 refine ⟨hty _ _ h.r,hty _ _ h.out,h.own.setOther hg dM,fun c hc=>(h.raws c hc).setOther hg dM,fun i l hl=> ?_,h.sep,h.map.setCell (h.map.ne_cells hg) _,h.heads.setOther hg dM,h.ext.setCell hB _,h.bo⟩
 by_cases hi:i=p
 ·subst hi
  rw [hp]at hl
  injection hl with hl
  subst hl
  rw [sJ hk]at h0
  have:=wU h0 (by simp;omega) z
  rw [hz,List.length_map,List.length_take,Nat.min_eq_left oM,←qd hk]at this
  rw [hq']
  exact this
 ·rw [hqo i hi]
  refine (h.lists i l hl).setNe ?_
  have e1:((vls A1 cap1 rs cs).map vblk)[p]?=some (some g):=by rw [List.getElem?_map,hp];rfl
  have e2:((vls A1 cap1 rs cs).map vblk)[i]?=some (vblk l):=by rw [List.getElem?_map,hl];rfl
  exact h.sep.ne e1 e2 hi
theorem RenL.fin {ns:List NodeD} (h:RenL V Bo o rs cs A cap A1 cap1 bm q L hv wr) (hq:∀i l,(vls A1 cap1 rs cs)[i]?=some l→l.xs.length≤q i) (hcs:cs.map aX=o.map (fun j=>aX (ns.getD j.toNat default))) (u0 u1:Value):
  RetN V 0 (o.map (tD o ns)) (rs.map (aj o)) (.returned (.tuple #[.agg #[.slice A cs.length cap,.slice A1 rs.length cap1],.int .i64 0])) ((wr.setCell ⟨V.heap.size+1,0,none⟩ u0).setCell ⟨V.heap.size+1,1,none⟩ u1):=by
 have h2:=heap_setCell_same wr (V.heap.size+1) 0 _ _ u0 h.r
 have st:∀ {α:Type} {e:TypeId} {n:Nat} {f:α→List Value} {v:Value} {xs:List α},Own e n f wr V.heap.size v xs→27≠e→Own e n f ((wr.setCell ⟨V.heap.size+1,0,none⟩ u0).setCell ⟨V.heap.size+1,1,none⟩ u1) V.heap.size v xs:=
  fun ho hne=>(ho.setOther h.r hne).setOther h2 hne
 have hx:Ext V ((wr.setCell ⟨V.heap.size+1,0,none⟩ u0).setCell ⟨V.heap.size+1,1,none⟩ u1):=(h.ext.setCell sM _).setCell sM _
 have hf:∀c∈cs,Own 71 2 aa wr V.heap.size (.slice c.fA (c.fields.map (aj o)).length c.fcap) (c.fields.map (aj o)):=fun c hc=>by
  obtain ⟨i,hi⟩:=List.mem_iff_getElem?.1 hc
  have e:(vls A1 cap1 rs cs)[i+1]?=some (vlN c):=by simp [vls,hi]
  have:=h.lists (i+1) _ e
  rw [kI (hq _ _ e)]at this
  simpa [vlN]using this
 have hr:Own 71 2 aa wr V.heap.size (.slice A1 (rs.map (aj o)).length cap1) (rs.map (aj o)):=by
  have e:(vls A1 cap1 rs cs)[0]?=some ⟨A1,cap1,rs⟩:=by simp [vls]
  have:=h.lists 0 _ e
  rw [kI (hq _ _ e)]at this
  simpa using this
 have hn:Own 66 3 dv wr V.heap.size (.slice A (cs.map (fun c=> {c with fields:=c.fields.map (aj o)})).length cap) (cs.map (fun c=> {c with fields:=c.fields.map (aj o)})):=by
  have:=h.own
  unfold Own at this⊢
  rw [List.length_map,List.flatMap_map]
  have e:(fun c:NodeD=>dv {c with fields:=c.fields.map (aj o)})=dv:=by funext c;simp [dv]
  rw [e]
  exact this
 have on:=ag (st hn dM) dL dM
 have orr:=ag (st hr dM) aE dM
 refine ⟨⟨A,cap,cs.map (fun c=> {c with fields:=c.fields.map (aj o)}),A1,cap1,rs.map (aj o)⟩,by simp,⟨⟨on.1,fun c hc=> ?_⟩,orr.1⟩,?_,rfl,fun c hc=> ?_,on.2.1,orr.2.1,on.2.2,orr.2.2,hx⟩
 ·obtain ⟨d,hd,rfl⟩:=List.mem_map.1 hc
  exact ⟨(ag (st (hf d hd) dM) aE dM).1,(ag (st (h.raws d hd) dM) dA dM).1⟩
 ·have:=congrArg (List.map (fun y:Int×List (Int×Int)×List Int=>(y.1,y.2.1.map (aj o),y.2.2))) hcs
  rw [List.map_map,List.map_map]at this
  rw [List.map_map]
  exact this
 ·obtain ⟨d,hd,rfl⟩:=List.mem_map.1 hc
  have of:=ag (st (hf d hd) dM) aE dM
  have ow:=ag (st (h.raws d hd) dM) dA dM
  exact ⟨of.2.1,ow.2.1,of.2.2,ow.2.2⟩
end
theorem lj {o:List Int} {ns cs:List NodeD} {rs:List (Int×Int)} {A1:Option Addr} {cap1:Nat} (hcs:cs.map aX=o.map (fun j=>aX (ns.getD j.toNat default))):nJ o ns rs=(vls A1 cap1 rs cs).any (fun l=>l.xs.any (dE o)):=by
 have h1:(o.any fun j=>(ns.getD j.toNat default).fields.any (dE o))=cs.any (fun c=>c.fields.any (dE o)):=by
  have e1:(o.any fun j=>(ns.getD j.toNat default).fields.any (dE o))=(o.map (fun j=>aX (ns.getD j.toNat default))).any (fun y=>y.2.1.any (dE o)):=by rw [List.any_map];rfl
  rw [e1,←hcs,List.any_map]
  rfl
 unfold nJ
 rw [h1,vls,List.any_cons,List.any_map,Bool.or_comm]
 rfl
def qq (p k i:Nat):Nat:=if i < p then 8796093022208 else if i=p then k else 0
theorem yD {w:World} {b off:Nat} {zs:List VL} (hc:∀i x,zs[i]?=some x→∀j v,(vlC x)[j]?=some v→w.cell? ⟨b,off+i*1+j,none⟩=some v) {k:Nat} (hk:k < zs.length):
  w.cell? ⟨b,off+k,none⟩=some (.slice (zs.getD k default).A (zs.getD k default).xs.length (zs.getD k default).cap):=by
 have h:=hc k zs[k] (by simp [hk]) 0 _ rfl
 simpa [hk]using h
section
variable {V : World} {Bo bm : Nat} {o : List Int} {rs : List (Int × Int)} {cs : List NodeD} {A A1 : Option Addr} {cap cap1 : Nat} {q : Nat → Nat} {L : List VL} {hv : Value} {wr w' : World}
theorem RenL.at (h:RenL V Bo o rs cs A cap A1 cap1 bm q L hv wr) {p k:Nat} {l:VL} (hp:(vls A1 cap1 rs cs)[p]?=some l) (hk:k < l.xs.length) (hqp:q p=k):
  ∃g,l.A=some ⟨g,0,none⟩∧wr.cell? ⟨g,k*2,none⟩=some (.int .i64 (l.xs.getD k (0,0)).1)∧wr.cell? ⟨g,k*2+1,none⟩=some (.int .i64 (l.xs.getD k (0,0)).2)∧wr.frozen? ⟨g,k*2+1,none⟩=false∧g < wr.heap.size:=by
 obtain ⟨lA,lcap,xs⟩:=l
 simp only at hk
 have h0:=h.lists p _ hp
 simp only [hqp]at h0
 have h1:Own 71 2 aa wr V.heap.size (.slice lA (mix o k xs).length lcap) (mix o k xs):=by rw [oy];exact h0
 obtain ⟨A',cap',hv,hrow,hnn,had, -⟩:=h1.form aE dM
 injection hv with e1 e2 e3
 subst e1 e3
 obtain ⟨b,off,rfl,hc⟩:=hrow.get (by rw [oy];omega)
 obtain ⟨-,hlt, -,hoff⟩:=had _ rfl
 simp only at hoff hlt
 subst hoff
 obtain ⟨c0,c1⟩:=aQ hc (k:=k) (by rw [oy];exact hk)
 have hg:(mix o k xs).getD k (0,0)=xs.getD k (0,0):=by
  rw [sJ hk,List.getD_eq_getElem?_getD,List.getElem?_append_right (by simp;omega)]
  simp [Nat.min_eq_left (Nat.le_of_lt hk)]
 rw [hg]at c0 c1
 obtain ⟨cur,hh⟩:=ci h0
 exact ⟨b,rfl,by simpa using c0,by simpa using c1,frozen_of_row _ _ _ _ _ hh,hlt⟩
theorem RenL.step {p k:Nat} (h:RenL V Bo o rs cs A cap A1 cap1 bm (qq p k) L hv wr) {l:VL} (hp:(vls A1 cap1 rs cs)[p]?=some l) {g:Nat} (hA:l.A=some ⟨g,0,none⟩) (hk:k < l.xs.length) {z:Int} (hz:((l.xs.getD k (0,0)).1,z)=aj o (l.xs.getD k (0,0))):
  RenL V Bo o rs cs A cap A1 cap1 bm (qq p (k+1)) L hv (wr.setCell ⟨g,k*2+1,none⟩ (.int .i64 z)):=
 h.store hp hA hk (by simp [qq]) hz (by simp [qq]) (fun i hi=>by simp [qq,hi])
theorem RenL.same {p k:Nat} (h:RenL V Bo o rs cs A cap A1 cap1 bm (qq p k) L hv wr) {l:VL} (hp:(vls A1 cap1 rs cs)[p]?=some l) (hk:k < l.xs.length) (hz:aj o (l.xs.getD k (0,0))=l.xs.getD k (0,0)):
  RenL V Bo o rs cs A cap A1 cap1 bm (qq p (k+1)) L hv wr:=
 h.re fun i l' hl=>by
  by_cases hi:i=p
  ·subst hi
   rw [hp]at hl
   injection hl with hl
   subst hl
   simp only [qq,Nat.lt_irrefl,if_false,if_true]
   rw [qd hk,sJ hk,hz]
  ·simp [qq,hi]
theorem RenL.next {p k:Nat} (h:RenL V Bo o rs cs A cap A1 cap1 bm (qq p k) L hv wr) {l:VL} (hp:(vls A1 cap1 rs cs)[p]?=some l) (hk:k=l.xs.length) (hl:l.xs.length≤8796093022208):
  RenL V Bo o rs cs A cap A1 cap1 bm (qq (p+1) 0) L hv wr:=
 h.re fun i l' hl'=>by
  by_cases hi:i=p
  ·subst hi
   rw [hp]at hl'
   injection hl' with hl'
   subst hl'
   simp only [qq,Nat.lt_irrefl,if_false,if_true,if_pos (Nat.lt_succ_self i)]
   rw [kI hl,kI oM]
  ·by_cases h2:i < p
   ·simp [qq,h2,Nat.lt_succ_of_lt h2]
   ·by_cases h3:i=p+1
    ·subst h3;simp [qq];rw [if_neg oM]
    ·simp [qq,hi,h2,h3];rw [if_neg oM]
end
theorem el {A1:Option Addr} {cap1:Nat} {rs:List (Int×Int)} {cs:List NodeD}:(vls A1 cap1 rs cs).length=cs.length+1:=by simp [vls]
theorem zI {A1:Option Addr} {cap1:Nat} {rs:List (Int×Int)} {cs:List NodeD} (h0:rs.length≤8796093022208) (h:∀c∈cs,c.fields.length≤8796093022208):∀(i:Nat) (l:VL),(vls A1 cap1 rs cs)[i]?=some l→l.xs.length≤8796093022208:=by
 intro i l hl
 rcases List.mem_cons.1 (List.mem_of_getElem? hl)with rfl | hm
 ·exact h0
 ·obtain ⟨c,hc,rfl⟩:=List.mem_map.1 hm
  exact h c hc
theorem yE {A1:Option Addr} {cap1:Nat} {rs:List (Int×Int)} {cs:List NodeD} {p:Int×Int→Prop} (h0:∀v∈rs,p v) (h:∀c∈cs,∀v∈c.fields,p v):∀(i:Nat) (l:VL),(vls A1 cap1 rs cs)[i]?=some l→∀v∈l.xs,p v:=by
 intro i l hl
 rcases List.mem_cons.1 (List.mem_of_getElem? hl)with rfl | hm
 ·exact h0
 ·obtain ⟨c,hc,rfl⟩:=List.mem_map.1 hm
  exact h c hc
theorem wV {A1:Option Addr} {cap1:Nat} {rs:List (Int×Int)} {cs:List NodeD} {k:Nat} (h:k < cs.length):(vls A1 cap1 rs cs).take (k+1)++ [vlN (cs.getD k default)]=(vls A1 cap1 rs cs).take (k+1+1):=by
 rw [List.take_succ_eq_append_getElem (i:=k+1) (by rw [el];omega)]
 simp [vls,h]
theorem ue {o:List Int} {ls:List VL} (h:∀(i:Nat) (l:VL),ls[i]?=some l→l.xs.any (dE o)=false):ls.any (fun l=>l.xs.any (dE o))=false:=by
 rw [List.any_eq_false]
 intro l hl
 obtain ⟨i,hi⟩:=List.mem_iff_getElem?.1 hl
 simp only [h i l hi,Bool.false_eq_true,not_false_eq_true]
theorem uf {o:List Int} {ls:List VL} {p k:Nat} {l:VL} (hp:ls[p]?=some l) (hk:k < l.xs.length) (h:dE o (l.xs.getD k (0,0))=true):ls.any (fun l=>l.xs.any (dE o))=true:=by
 rw [List.any_eq_true]
 refine ⟨l,List.mem_of_getElem? hp,?_⟩
 rw [List.any_eq_true]
 exact ⟨_,aH hk,h⟩
theorem ug {o:List Int} {xs:List (Int×Int)} (h:∀j,j < xs.length→dE o (xs.getD j (0,0))=false):xs.any (dE o)=false:=by
 rw [List.any_eq_false]
 intro x hx
 obtain ⟨i,hi,rfl⟩:=List.mem_iff_getElem.1 hx
 have:=h i hi
 simpa [hi]using this
theorem wW (G:GraphD) (b:Bool) (hb:aR G=b) (V:World) (hG:GraphAt V G) (hn:G.ns.length≤9223372036854775807) (hr:G.rs.length≤9223372036854775807) (hf:∀x∈G.ns,x.fields.length≤9223372036854775807):
  Calls Tryz.prog 33 #[.agg #[.slice G.nA G.ns.length G.ncap,.slice G.rA G.rs.length G.rcap]] V fun e w'=>e= .returned (.bool b)∧Ext V w':=by
 subst hb;exact lh G V hG hn hr hf
theorem zi (nA:Option Addr) (ncap:Nat) (ns:List NodeD) (rA:Option Addr) (rcap:Nat) (rs:List (Int×Int)) (A2:Option Addr) (cap2:Nat) (o:List Int) (V:World) (hN:NodesAt V nA ns) (hR:SpansAt V rA rs) (hO:IntsAt V A2 o)
  (hn:ns.length≤2513169434843) (hr:rs.length≤8796093022208) (hol:o.length≤1000) (how:∀x∈o, -9223372036854775808≤x∧x≤9223372036854775807) (hf:∀x∈ns,NodeOk x) (hrv:∀v∈rs,(-9223372036854775808≤v.1∧v.1≤9223372036854775807)∧(-9223372036854775808≤v.2∧v.2≤9223372036854775807)):
  Calls Tryz.prog 106 #[.agg #[.slice nA ns.length ncap,.slice rA rs.length rcap],.slice A2 o.length cap2] V (RetN V (renE ⟨nA,ncap,ns,rA,rcap,rs⟩ o) (renN ⟨nA,ncap,ns,rA,rcap,rs⟩ o) (renR ⟨nA,ncap,ns,rA,rcap,rs⟩ o)):=by
 have HN:=zH hN
 have HR:=zH hR
 have HO:=zH hO
 have HF:=zH hf
 have HRV:=zH hrv
 have HOW:=zH how
 have HXV:=zH (show Ext V ((V.alloc (.cells #[.slice nA ns.length ncap,.slice rA rs.length rcap] 27)).alloc (.cells #[.slice none 0 0,.slice none 0 0] 27))from ((zo V).alloc _).alloc _)
 have HSZ:=zH (show ((V.alloc (.cells #[.slice nA ns.length ncap,.slice rA rs.length rcap] 27)).alloc (.cells #[.slice none 0 0,.slice none 0 0] 27)).heap.size=V.heap.size+2 by simp)
 have HG0:=zH (show ((V.alloc (.cells #[.slice nA ns.length ncap,.slice rA rs.length rcap] 27)).alloc (.cells #[.slice none 0 0,.slice none 0 0] 27)).heap[V.heap.size]?=some (.cells #[.slice nA ns.length ncap,.slice rA rs.length rcap] 27 (0,0))from (Below.heap_alloc _ _ _ sM).trans (World.alloc_heap_new _ _))
 have HR0:=zH (show ((V.alloc (.cells #[.slice nA ns.length ncap,.slice rA rs.length rcap] 27)).alloc (.cells #[.slice none 0 0,.slice none 0 0] 27)).heap[V.heap.size+1]?=some (.cells #[.slice none 0 0,.slice none 0 0] 27 (0,0))from by
  have:=World.alloc_heap_new (V.alloc (.cells #[.slice nA ns.length ncap,.slice rA rs.length rcap] 27)) (.cells #[.slice none 0 0,.slice none 0 0] 27)
  simpa using this)
 obtain ⟨b,hb⟩:∃b,aR ⟨nA,ncap,ns,rA,rcap,rs⟩=b:=⟨_,rfl⟩
 have HB:=zH hb
 have hmm:= @run_makeMap Tryz.prog
 clear hN hR hO hf hb how hrv
 go_enter Tryz.func106,Tryz.ntmps106
 go_wp2_with fail
 generalize ((V.alloc (.cells #[.slice nA ns.length ncap,.slice rA rs.length rcap] 27)).alloc (.cells #[.slice none 0 0,.slice none 0 0] 27))=w0 at*
 refine (wW ⟨nA,ncap,ns,rA,rcap,rs⟩ b HB.out _ ⟨HN.out.ext HXV.out,HR.out.ext HXV.out⟩ (by simp only;omega) (by simp only;omega) (fun x hx=>by have:=(HF.out x hx).fl;omega)).mono ?_
 rintro e w1 ⟨rfl,hx1⟩
 have HX1:=zH (HXV.out.trans hx1)
 have HR1:=zH ((hx1.block (aA HR0.out)).trans HR0.out)
 have HG1:=zH ((hx1.block (aA HG0.out)).trans HG0.out)
 have HS1:=zH (show V.heap.size+2≤w1.heap.size by have:=hx1.size;have:=HSZ.out;omega)
 clear HXV HSZ HG0 HR0 hx1
 cases b
 ·have HE:=zH (uc (o:=o) HB.out)
  have p0:w1.cell? ⟨V.heap.size+1,0,none⟩=some (.slice none 0 0):=by simp [World.cell?,HR1.out]
  have p1:w1.cell? ⟨V.heap.size+1,1,none⟩=some (.slice none 0 0):=by simp [World.cell?,HR1.out]
  have p2:w1.frozen? ⟨V.heap.size+1,0,none⟩=false:=by simp [World.frozen?,HR1.out]
  have p3:w1.frozen? ⟨V.heap.size+1,1,none⟩=false:=by simp [World.frozen?,HR1.out]
  go_wp2_with fail
  ((try simp only [Exit.inBlock,Exit.then]);refine bodyPost_ret (v:= .tuple #[.agg #[.slice none 0 0,.slice none 0 0],.int .i64 4]) (by simp only [results,Tryz.results106];go_simp) rfl ?_)
  exact iA HE.out dM (((HX1.out).setCell sM _).setCell sM _)
 have HM0:=zH (MapOf.made w1)
 go_wp2_with fail
 go_loopw [7,8,9,10,31] (fun _ _ _ _ i wr=>∃k:Nat,k≤o.length∧i= .int .i64 k∧Hid (Ext w1 wr)∧Hid (MapOf wr w1.heap.size k (pf o k))∧Hid (∀i,i < k→0≤o.getD i 0∧o.getD i 0 < ns.length∧aY o (o.getD i 0)=i)) (fun _ _ _ _ i _=>o.length - (intOf i).toNat)
 case atStart=>exact ⟨0,by omega,rfl,zH ((zo _).alloc _),zH (by rw [tH];exact HM0.out),zH oM⟩
 case round=>
  obtain ⟨k,hk,rfl,hxr,hM,hq⟩:=hrel
  clear HM0
  have hsr:=hxr.out.size
  have hs1:=HS1.out
  have HRR:=zH ((hxr.out.block (aA HR1.out)).trans HR1.out)
  have HGR:=zH ((hxr.out.block (aA HG1.out)).trans HG1.out)
  have b0:wr.cell? ⟨V.heap.size,0,none⟩=some (.slice nA ns.length ncap):=by simp [World.cell?,HGR.out]
  have b1:wr.cell? ⟨V.heap.size,1,none⟩=some (.slice rA rs.length rcap):=by simp [World.cell?,HGR.out]
  by_cases hlt:k < o.length
  rotate_left
  ·obtain rfl:k=o.length:=by omega
   have HBO:=zH (tE hq.out)
   have HQ:=zH hq.out
   have HX3:=zH (HX1.out.trans hxr.out)
   clear hq hsr
   go_wp2_with fail
   refine (kt rA rcap rs _ hr (HR.out.ext HX3.out)).mono ?_
   rintro e w3 ⟨A1,cap1,rfl,hor,hxr2⟩
   have hs3:=hxr2.size
   have hs4:=hxr.out.size
   have HI0:=zH (show RenC V w3.heap.size (.slice nA ns.length ncap) (.slice rA rs.length rcap) #[.slice none 0 0,.slice none 0 0] rs [] (.slice none 0 0) (.slice A1 rs.length cap1) w1.heap.size o.length (pf o o.length) (w3.alloc (.cells #[.slice none 0 0,.slice A1 rs.length cap1] 27))from
    ⟨⟨(Below.heap_alloc _ _ _ (by have:=aA HGR.out;omega)).trans ((hxr2.block (aA HGR.out)).trans HGR.out),(Below.heap_alloc _ _ _ (by have:=aA HRR.out;omega)).trans ((hxr2.block (aA HRR.out)).trans HRR.out),World.alloc_heap_new _ _,AA _ _ _ _ _,by simp,(hor.mono oM).ext ((zo _).alloc _),(HX3.out.trans hxr2).alloc _,by omega⟩,(hM.out.ext hxr2).ext ((zo _).alloc _),by simp [Apart]⟩)
   clear hor hxr2 hs3 hs4 hM hxr HRR HGR b0 b1 HR1 HG1 HS1 hs1 HX3
   go_wp2_with fail
   generalize w3.alloc (.cells #[.slice none 0 0,.slice A1 rs.length cap1] 27)=w4 at*
   generalize w3.heap.size=Bo at*
   generalize w1.heap.size=bm at*
   go_loopw [13,65] (fun _ i wr=>∃(k:Nat) (cs:List NodeD) (A:Option Addr) (cap:Nat),k≤o.length∧i= .int .i64 k∧Hid (cs.map aX=(o.take k).map (fun j=>aX (ns.getD j.toNat default)))∧Hid (RenC V Bo (.slice nA ns.length ncap) (.slice rA rs.length rcap) #[.slice none 0 0,.slice none 0 0] rs cs (.slice A cs.length cap) (.slice A1 rs.length cap1) bm o.length (pf o o.length) wr)) (fun _ i _=>o.length - (intOf i).toNat)
   case atStart=>exact ⟨0,[],none,0,by omega,rfl,zH rfl,HI0⟩
   case round=>
    obtain ⟨k,cs,A,cap,hk,rfl,hcs,hI⟩:=hrel
    clear HI0
    have b0:wr.cell? ⟨V.heap.size,0,none⟩=some (.slice nA ns.length ncap):=by simp [World.cell?,hI.out.base.g]
    have q0:wr.cell? ⟨Bo,0,none⟩=some (.slice A cs.length cap):=by simp [World.cell?,hI.out.base.out]
    have q1:wr.cell? ⟨Bo,1,none⟩=some (.slice A1 rs.length cap1):=by simp [World.cell?,hI.out.base.out]
    have hvs:=hI.out.base.ext.size
    have hbo:=hI.out.base.bo
    have hbl:=aA hI.out.base.out
    by_cases hlt:k < o.length
    rotate_left
    ·obtain rfl:k=o.length:=by omega
     have HCS:=zH (show cs.map aX=o.map (fun j=>aX (ns.getD j.toNat default))from by have:=hcs.out;rwa [List.take_length]at this)
     have HL0:=zH (RenL.start hI.out)
     have hclb:cs.length≤1000:=by have:=congrArg List.length HCS.out;simp at this;omega
     have hws:=Nat.le_trans hvs (Nat.le_succ _)
     have HCO:=zH (show ∀c∈cs,c.fields.length≤8796093022208∧∀v∈c.fields,(-9223372036854775808≤v.1∧v.1≤9223372036854775807)∧(-9223372036854775808≤v.2∧v.2≤9223372036854775807)from fun c hc=>by
      have:aX c∈cs.map aX:=List.mem_map.2 ⟨c,hc,rfl⟩
      rw [HCS.out]at this
      obtain ⟨j,hj,e⟩:=List.mem_map.1 this
      have hq:=HQ.out
      obtain ⟨i,hi,rfl⟩:=List.mem_iff_getElem.1 hj
      have:=hq i hi
      rw [List.getD_eq_getElem?_getD,List.getElem?_eq_getElem hi,Option.getD_some]at this
      have hb:=HF.out _ (aH (d:=default) (show o[i].toNat < ns.length by omega))
      have e2:=congrArg (fun y:Int×List (Int×Int)×List Int=>y.2.1) e
      simp only [aX]at e2
      rw [←e2];exact ⟨hb.fl,hb.fv⟩)
     clear hcs hvs hbo
     go_wp2_with fail
     clear hI b0 q0 q1 hbl
     generalize wr.alloc (.cells #[.slice A1 rs.length cap1] 25)=w5 at*
     go_loopw [15,95] (fun l i wr=>∃(k:Nat) (LA:Option Addr) (lcap:Nat),k≤cs.length∧i= .int .i64 k∧l= .slice LA ((k:Nat)+1) lcap∧Hid (RenL V Bo o rs cs A cap A1 cap1 bm (fun _=>0) ((vls A1 cap1 rs cs).take (k+1)) (.slice LA (k+1) lcap) wr)) (fun _ i _=>cs.length - (intOf i).toNat)
     case atStart=>exact ⟨0,_,_,by omega,rfl,rfl,HL0⟩
     case round=>
      obtain ⟨k,LA,lcap,hk,rfl,rfl,hI⟩:=hrel
      clear HL0
      have hx0:=hI.out.ext.size
      by_cases hlt:k < cs.length
      rotate_left
      ·obtain rfl:k=cs.length:=by omega
       have HL1:=zH (show RenL V Bo o rs cs A cap A1 cap1 bm (qq 0 0) (vls A1 cap1 rs cs) (.slice LA (cs.length+1) lcap) wr from by
        have:=hI.out.re (q':=qq 0 0) (fun i l _=>by simp [qq])
        rwa [List.take_of_length_le (by rw [el];omega)]at this)
       clear hI hx0
       go_wp2_with fail
       have hll:=HL1.out.ext.size
       have hLB:=zH (zI (A1:=A1) (cap1:=cap1) hr (fun c hc=>(HCO.out c hc).1))
       have HLV:=zH (yE (A1:=A1) (cap1:=cap1) HRV.out (fun c hc=>(HCO.out c hc).2))
       go_loopw [107] (fun i wr=>∃p:Nat,p≤cs.length+1∧i= .int .i64 p∧Hid (RenL V Bo o rs cs A cap A1 cap1 bm (qq p 0) (vls A1 cap1 rs cs) (.slice LA (cs.length+1) lcap) wr)∧Hid (∀(j:Nat) (l:VL),j < p→(vls A1 cap1 rs cs)[j]?=some l→l.xs.any (dE o)=false)) (fun i _=>cs.length+1 - (intOf i).toNat)
       case atStart=>exact ⟨0,by omega,rfl,HL1,zH oM⟩
       case round=>
        obtain ⟨p,hp,rfl,hI,hJ⟩:=hrel
        clear HL1
        by_cases hlt:p < cs.length+1
        rotate_left
        ·obtain rfl:p=cs.length+1:=by omega
         have HE:=zH (show renE ⟨nA,ncap,ns,rA,rcap,rs⟩ o=0 from tF HB.out HBO.out (by
          rw [lj (A1:=A1) (cap1:=cap1) HCS.out]
          exact ue fun i l hl=>hJ.out i l (by have:=(List.getElem?_eq_some_iff.1 hl).1;rw [el]at this;exact this) hl))
         have HFIN:=zH (hI.out.fin (ns:=ns) (fun i l hl=>by
          have h1:=(List.getElem?_eq_some_iff.1 hl).1
          rw [el]at h1
          simp only [qq,if_pos h1]
          exact hLB.out i l hl) HCS.out (.slice A cs.length cap) (.slice A1 rs.length cap1))
         have q0:wr.cell? ⟨Bo,0,none⟩=some (.slice A cs.length cap):=by simp [World.cell?,hI.out.out]
         have q1:wr.cell? ⟨Bo,1,none⟩=some (.slice A1 rs.length cap1):=by simp [World.cell?,hI.out.out]
         have p0:wr.cell? ⟨V.heap.size+1,0,none⟩=some (.slice none 0 0):=by simp [World.cell?,hI.out.r]
         have p1:wr.cell? ⟨V.heap.size+1,1,none⟩=some (.slice none 0 0):=by simp [World.cell?,hI.out.r]
         have p2:wr.frozen? ⟨V.heap.size+1,0,none⟩=false:=by simp [World.frozen?,hI.out.r]
         have p3:wr.frozen? ⟨V.heap.size+1,1,none⟩=false:=by simp [World.frozen?,hI.out.r]
         clear hI hJ
         go_wp2_with fail
         ((try simp only [Exit.inBlock,Exit.then]);refine bodyPost_ret (v:= .tuple #[.agg #[.slice A cs.length cap,.slice A1 rs.length cap1],.int .i64 0]) (by simp only [results,Tryz.results106];go_simp) rfl ?_)
         rw [renN,renR,if_pos HE.out,if_pos HE.out,HE.out]
         exact HFIN.out
        obtain ⟨hb,hoff,rfl,hch⟩:=(ag (by have:=hI.out.heads;rw [←el (A1:=A1) (cap1:=cap1) (rs:=rs)]at this;exact this) tK dM).1.get (by rw [el];omega)
        have d0:=yD hch (k:=p) (by rw [el];exact hlt)
        have HP:=zH (show (vls A1 cap1 rs cs)[p]?=some ((vls A1 cap1 rs cs).getD p default)by
         have:p < (vls A1 cap1 rs cs).length:=by rw [el];exact hlt
         simp [this])
        have ib1:(p:Int) < ((cs.length+1:Nat):Int):=by omega
        clear hch
        generalize (vls A1 cap1 rs cs).getD p default=l at*
        obtain ⟨lA,lcap2,xs⟩:=l
        simp only at d0
        have hxl:=hLB.out p _ HP.out
        simp only at hxl
        go_wp2_with fail
        clear d0
        go_loopw [113] (fun i wr=>∃k:Nat,k≤xs.length∧i= .int .i64 k∧Hid (RenL V Bo o rs cs A cap A1 cap1 bm (qq p k) (vls A1 cap1 rs cs) (.slice (some ⟨hb,hoff,none⟩) (cs.length+1) lcap) wr)∧Hid (∀j:Nat,j < k→dE o (xs.getD j (0,0))=false)) (fun i _=>xs.length - (intOf i).toNat)
        case atStart=>exact ⟨0,by omega,rfl,hI,zH oM⟩
        case round=>
         obtain ⟨k,hk,rfl,hI2,hJ2⟩:=hrel
         clear hI
         by_cases hlk:k < xs.length
         rotate_left
         ·obtain rfl:k=xs.length:=by omega
          have HN2:=zH (hI2.out.next HP.out rfl hxl)
          have HJN:=zH (show ∀(j:Nat) (l:VL),j < p+1→(vls A1 cap1 rs cs)[j]?=some l→l.xs.any (dE o)=false from fun j l hj hl=>by
           rcases Nat.lt_or_ge j p with h | h
           ·exact hJ.out j l h hl
           ·obtain rfl:j=p:=by omega
            have h5:=HP.out
            rw [h5]at hl
            injection hl with hl
            subst hl
            exact ug hJ2.out)
          clear hI2 hJ2 hJ
          go_wp2_with fail
          go_roundw
          case rel=>exact ⟨p+1,by omega,by go_num,HN2,HJN⟩
          case measure=>simp [intOf];omega
         obtain ⟨g,hg,c0,c1,fz,hgl⟩:=hI2.out.at HP.out hlk (by simp [qq])
         simp only at hg
         subst hg
         have hz1:(some g:Option Nat)=some g:=rfl
         have HSX:=zH (fun (z:Int) hz=>(hI2.out.step (z:=z) HP.out rfl hlk hz).grow ((zo _).alloc (.cells #[.int .i64 (xs.getD k (0,0)).1,.int .i64 (xs.getD k (0,0)).2] 71)))
         have HSM:=zH (fun hz=>(hI2.out.grow ((zo wr).alloc (.cells #[.int .i64 (xs.getD k (0,0)).1,.int .i64 (xs.getD k (0,0)).2] 71))).same HP.out hlk hz)
         have HLS:=zH (fun hz=>uf (o:=o) HP.out hlk hz)
         have HM:=zH (hI2.out.map.ext ((zo wr).alloc (.cells #[.int .i64 (xs.getD k (0,0)).1,.int .i64 (xs.getD k (0,0)).2] 71)))
         have ib2:(k:Int) < (xs.length:Int):=by omega
         have HJS:=zH (fun (hl:dE o (xs.getD k (0,0))=false)=>(fun j (hj:j < k+1)=>by
          rcases Nat.lt_or_ge j k with h | h
          ·exact hJ2.out j h
          ·obtain rfl:j=k:=by omega
           exact hl:∀j:Nat,j < k+1→dE o (xs.getD j (0,0))=false))
         have WF:Hid ((Lit.int .i64 (xs.getD k (0,0)).2).wf=true):=zH (WalkArith.wf_i64 (HLV.out p _ HP.out _ (aH hlk)).2)
         simp only at HSX HSM HLS
         have hvv:=hI2.out.ext.size
         have hrr:=aA hI2.out.r
         have HR2:=zH hI2.out.r
         clear hJ2 hz1
         generalize xs.getD k (0,0)=x at*
         obtain ⟨vk,vx⟩:=x
         simp only at c0 c1
         by_cases hk2:vk=2
         rotate_left
         ·have hd:(vk !=2)=true:=by simpa using hk2
          have HT:=zH (HSM.out (by simp [aj,hk2]))
          have HJ3:=zH (HJS.out (by simp [dE,hk2]))
          clear HSX HSM HLS HJS hI2
          go_wp2_with (at_lookup;refine bp rfl (.tmp 119) (.tmp 121) rfl HM.out rfl vx rfl WF.out ?_)
          refine ⟨⟨_,_,_,_,_,.int .i64 ((k+1:Nat):Int),⟨k+1,by omega,rfl,HT,HJ3⟩,rfl,rfl,rfl,rfl,rfl,by go_num⟩,by simp [intOf];omega⟩
         subst hk2
         by_cases hpl:aY o vx < 0
         ·have HE:=zH (sH HB.out HBO.out ((lj (A1:=A1) (cap1:=cap1) HCS.out).trans (HLS.out (by simp [dE,hpl]))))
          have hms:(pf o o.length vx).isSome=false:=by rw [tJ];simp;omega
          have hxx:=hI2.out.ext
          clear HSX HSM HLS HJS hpl
          have p0:wr.cell? ⟨V.heap.size+1,0,none⟩=some (.slice none 0 0):=by simp [World.cell?,HR2.out]
          have p1:wr.cell? ⟨V.heap.size+1,1,none⟩=some (.slice none 0 0):=by simp [World.cell?,HR2.out]
          have p2:wr.frozen? ⟨V.heap.size+1,0,none⟩=false:=by simp [World.frozen?,HR2.out]
          have p3:wr.frozen? ⟨V.heap.size+1,1,none⟩=false:=by simp [World.frozen?,HR2.out]
          go_wp2_with (at_lookup;refine bp rfl (.tmp 119) (.tmp 121) rfl HM.out rfl vx rfl WF.out ?_)
          ((try simp only [Exit.inBlock,Exit.then]);refine bodyPost_ret (v:= .tuple #[.agg #[.slice none 0 0,.slice none 0 0],.int .i64 2]) (by simp only [results,Tryz.results106];go_simp) rfl ?_)
          exact iA HE.out dM (((hxx.setCell sM _).setCell sM _).alloc _)
         have hms:(pf o o.length vx).isSome=true:=by rw [tJ];simp;omega
         have hgd:(pf o o.length vx).getD 0=aY o vx:=by rw [sI,if_neg hpl];rfl
         have HT:=zH (HSX.out (aY o vx) (by simp [aj]))
         have HJ3:=zH (HJS.out (by simp [dE];omega))
         clear HSX HSM HLS HJS hI2
         go_wp2_with (at_lookup;refine bp rfl (.tmp 119) (.tmp 121) rfl HM.out rfl vx rfl WF.out ?_)
         refine ⟨⟨_,_,_,_,_,.int .i64 ((k+1:Nat):Int),⟨k+1,by omega,rfl,HT,HJ3⟩,rfl,rfl,rfl,rfl,rfl,by go_num⟩,by simp [intOf];omega⟩
      obtain ⟨nb,noff,rfl,hcn⟩:=(ag hI.out.own dL dM).1.get oM
      obtain ⟨d0,d1,d2⟩:=bB hcn hlt
      have HSN:=zH (wV (A1:=A1) (cap1:=cap1) (rs:=rs) hlt)
      have hln:((vls A1 cap1 rs cs).take (k+1)).length=k+1:=by rw [List.length_take,el];omega
      clear hcn
      generalize cs.getD k default=x at*
      obtain ⟨xk,xA,xc,fs,yA,yc,ys⟩:=x
      simp only at d0 d1 d2
      have HOH:=zH (hI.out.heads.ext ((zo wr).alloc (.cells #[.int .i64 xk,.slice xA fs.length xc,.slice yA ys.length yc] 66)))
      go_wp2_with (at_builtin;refine aM rfl (.tmp 99) (.tmp 102) 186 rfl zD tK rfl (by exact HOH.out) [⟨xA,xc,fs⟩] 1 _ rfl (k+1+1) 1 (by rw [hln];rfl) rfl _ rfl sM oM (by simp [maxLen];omega) (by simp;omega) ?_;intro A3 cap3 w6 hown3 hgr3 hat3;have HO3:=zH hown3;have HG3:=zH hgr3;clear hown3 hgr3 hat3)
      go_roundw
      case rel=>exact ⟨k+1,A3,cap3,by omega,by go_num,rfl,zH (by rw [←HSN.out];exact (hI.out.grow (((zo wr).alloc _).alloc _)).app HO3.out HG3.out)⟩
      case measure=>simp [intOf];omega
    obtain ⟨lb,off,rfl,hc⟩:=HO.out.get oM
    have c1:=hI.out.base.ext.cell (b5 hc hlt)
    obtain ⟨z1,z2,z3⟩:=HQ.out k hlt
    have HMS:=zH (pR (f:=fun j=>aX (ns.getD j.toNat default)) (d:=0) hlt)
    have hclb:cs.length≤1000:=by have:=congrArg List.length hcs.out;simp at this;omega
    have ib1:(k:Int) < (o.length:Int):=by omega
    clear hc z3
    generalize o.getD k 0=a at*
    obtain ⟨j,rfl⟩:=Int.eq_ofNat_of_zero_le z1
    have hj:j < ns.length:=by omega
    simp only [Int.toNat_natCast]at HMS
    obtain ⟨nb,noff,rfl,hcn⟩:=HN.out.row.get oM
    obtain ⟨d0,d1,d2⟩:=bB hcn hj
    have e0:=hI.out.base.ext.cell d0
    have e1:=hI.out.base.ext.cell d1
    have e2:=hI.out.base.ext.cell d2
    have HNA:=zH (HN.out.each _ (aH (d:=default) hj))
    have HOK:=zH (HF.out _ (aH (d:=default) hj))
    clear hcn d0 d1 d2
    generalize ns.getD j default=x at*
    obtain ⟨xk,xA,xc,fs,yA,yc,ys⟩:=x
    simp only at e0 e1 e2
    have HC1:=zH (hI.out.grow ((zo wr).alloc (.cells #[.int .i64 xk,.slice xA fs.length xc,.slice yA ys.length yc] 66)))
    have HBX:=zH (World.alloc_heap_new wr (.cells #[.int .i64 xk,.slice xA fs.length xc,.slice yA ys.length yc] 66))
    have HVX:=zH (show Value.ownBlock (.slice A cs.length cap)≠some wr.heap.size from fun e=>by have:=(World.ownsRow.lt hI.out.base.own _ e).2;omega)
    go_wp2_with fail
    clear hI e0 e1 e2 b0 q0 q1 c1 hvs hbl
    generalize wr.alloc (.cells #[.int .i64 xk,.slice xA fs.length xc,.slice yA ys.length yc] 66)=w5 at*
    generalize wr.heap.size=X at*
    have HS:=zH (show CpS Bo X (.cells #[.slice A cs.length cap,.slice A1 rs.length cap1] 27 (0,0)) (.cells #[.int .i64 xk,.slice xA fs.length xc,.slice yA ys.length yc] 66 (0,0)) w5.drew from ⟨HC1.out.base.out,HBX.out⟩)
    have HS0:=zH (show CpS Bo X (.cells #[.slice A cs.length cap,.slice A1 rs.length cap1] 27 (0,0)) (.cells #[.int .i64 xk,.slice xA fs.length xc,.slice yA ys.length yc] 66 (0,0)) w5 from ⟨HC1.out.base.out,HBX.out⟩)
    have l0:∀u:KeptOf w5 (CpS Bo X (.cells #[.slice A cs.length cap,.slice A1 rs.length cap1] 27 (0,0)) (.cells #[.int .i64 xk,.slice xA fs.length xc,.slice yA ys.length yc] 66 (0,0))),u.1.cell? ⟨Bo,0,none⟩=some (.slice A cs.length cap):=fun u=>by have:=(u.of HS0.out).1;simp [World.cell?,this]
    have l1:∀u:KeptOf w5 (CpS Bo X (.cells #[.slice A cs.length cap,.slice A1 rs.length cap1] 27 (0,0)) (.cells #[.int .i64 xk,.slice xA fs.length xc,.slice yA ys.length yc] 66 (0,0))),u.1.cell? ⟨X,0,none⟩=some (.int .i64 xk):=fun u=>by have:=(u.of HS0.out).2;simp [World.cell?,this]
    have l2:∀u:KeptOf w5 (CpS Bo X (.cells #[.slice A cs.length cap,.slice A1 rs.length cap1] 27 (0,0)) (.cells #[.int .i64 xk,.slice xA fs.length xc,.slice yA ys.length yc] 66 (0,0))),u.1.cell? ⟨X,1,none⟩=some (.slice xA fs.length xc):=fun u=>by have:=(u.of HS0.out).2;simp [World.cell?,this]
    have l3:∀u:KeptOf w5 (CpS Bo X (.cells #[.slice A cs.length cap,.slice A1 rs.length cap1] 27 (0,0)) (.cells #[.int .i64 xk,.slice xA fs.length xc,.slice yA ys.length yc] 66 (0,0))),u.1.cell? ⟨X,2,none⟩=some (.slice yA ys.length yc):=fun u=>by have:=(u.of HS0.out).2;simp [World.cell?,this]
    refine fB (fun w'=>∃u:KeptOf w5 (CpS Bo X (.cells #[.slice A cs.length cap,.slice A1 rs.length cap1] 27 (0,0)) (.cells #[.int .i64 xk,.slice xA fs.length xc,.slice yA ys.length yc] 66 (0,0))),w'=u.1) [0,1,2,3,4,5,7,8] 5 [(6,[(9,[(10,[(11,[(12,())])])])])] [13,14] kR kR (by intro c a d v w h;cases d <;>exact h) (ae HS.out) ?_
    simp only [aI,List.map_cons,List.map_nil,List.getD_cons_zero,List.getD_cons_succ]
    (repeat (go_big_quiet_step (fail)))
    refine wpQuiet_nil ?_
    have HC2:=zH (HC1.out.grow ((zo w5).drew))
    have HFA:=zH (HNA.out.fields.ext HC2.out.base.ext)
    have HRA:=zH (HNA.out.raws.ext HC2.out.base.ext)
    have hfl:=HOK.out.fl
    have hrl:=HOK.out.rl
    simp only at hfl hrl
    clear l0 l1 l2 l3 HC1 HS0 HBX HNA HOK
    generalize w5.drew=w6 at*
    refine db ?_
    (refine cL rM ?_;intro K hK;go_simp)
    refine (kt xA xc fs _ hfl HFA.out).mono ?_
    rintro e w7 ⟨A3,cap3,rfl,ho3,hx3⟩
    refine hK _ _ (ae (HS.out.ext hx3)) ?_
    clear hK K
    refine db ?_
    (refine cL rM ?_;intro K hK;go_simp)
    refine (gL yA yc ys _ hrl (HRA.out.ext hx3)).mono ?_
    rintro e w8 ⟨A4,cap4,rfl,ho4,hx4⟩
    refine hK _ _ (ae (HS.out.ext (hx3.trans hx4))) ?_
    clear hK K
    have HC4:=zH (HC2.out.grow (hx3.trans hx4))
    have HS4:=zH (HS.out.ext (hx3.trans hx4))
    have hv2:=HC2.out.base.ext.size
    have HFR:=zH (show ∀b,blk ⟨xk,A3,cap3,fs,A4,cap4,ys⟩=some b→w6.heap.size≤b from fun b hb=>(World.ownsRow.lt ho3 b hb).1)
    have HLT:=zH HC2.out.lt
    have HNN:=zH (show OwnN w8 V.heap.size ⟨xk,A3,cap3,fs,A4,cap4,ys⟩from ⟨(ho3.mono hv2).ext hx4,ho4.mono (Nat.le_trans hv2 hx3.size)⟩)
    clear ho3 ho4 hx3 hx4 hv2 HC2 HS
    have HC5:=zH (HC4.out.grow ((zo _).alloc (.cells #[.int .i64 xk,.slice A3 fs.length cap3,.slice A4 ys.length cap4] 66)))
    have HS5:=zH (HS4.out.ext ((zo _).alloc (.cells #[.int .i64 xk,.slice A3 fs.length cap3,.slice A4 ys.length cap4] 66)))
    refine db ?_
    (refine cL rM ?_;intro K hK;go_simp;refine hK _ _ (ae HS4.out) ?_;clear hK K)
    refine db ?_
    (refine cL rM ?_;intro K hK;go_simp;refine hK _ _ (ae HS5.out) ?_;clear hK K)
    refine db ?_
    refine cL rM ?_
    intro K hK
    refine fZ (.tmp 75) (.tmp 85) 24 rfl ks dL rfl HC5.out.base.own ⟨w8.heap.size,0,none⟩ 1 [⟨xk,A3,cap3,fs,A4,cap4,ys⟩] (cs.length+1) 1 sM rfl rfl (jt w8 _ rfl dL dM) oM (by simp [maxLen];omega) (by have:=HC5.out.base.ext.size;exact this) ?_
    intro A5 cap5 w9 ho5 hg5 ht5
    have hs5:CpS Bo X (.cells #[.slice A cs.length cap,.slice A1 rs.length cap1] 27 (0,0)) (.cells #[.int .i64 xk,.slice xA fs.length xc,.slice yA ys.length yc] 66 (0,0)) w9:=
     ⟨(hg5.block _ (aA HS5.out.1) (HC5.out.base.own.ne_block HS5.out.1 dM)).trans HS5.out.1,(hg5.block _ (aA HS5.out.2) (fun e=>HVX.out e.symm)).trans HS5.out.2⟩
    have HC6:=zH (RenC.app HC5.out ho5 hg5 (HNN.out.ext ((zo _).alloc _)) HLT.out HFR.out)
    refine hK _ _ (ae hs5) ?_
    clear hK K ho5 hg5 ht5
    have f1:w9.cell? ⟨Bo,0,none⟩=some (.slice A cs.length cap):=by simp [World.cell?,hs5.1]
    have f2:w9.frozen? ⟨Bo,0,none⟩=false:=by simp [World.frozen?,hs5.1]
    clear hs5
    refine oJ ?_
    (try simp only [aI,List.map_cons,List.map_nil,List.getD_cons_zero,List.getD_cons_succ])
    go_wp2_with fail
    go_roundw
    case rel=>exact ⟨k+1,cs++ [⟨xk,A3,cap3,fs,A4,cap4,ys⟩],A5,cap5,by omega,by go_num,zH (by rw [HMS.out,List.map_append,hcs.out];rfl),zH (by rw [List.length_append];exact HC6.out)⟩
    case measure=>simp [intOf];omega
  obtain ⟨lb,off,rfl,hc⟩:=HO.out.get oM
  have c1:=(HX1.out.trans hxr.out).cell (b5 hc hlt)
  have HBY:=zH (fun h=>wR (n:=ns.length) hlt h)
  have HTW:=zH (wS hlt)
  have HST:=zH (fun h=>tI hlt h)
  have WF:Hid ((Lit.int .i64 (o.getD k 0)).wf=true):=zH (WalkArith.wf_i64 (HOW.out _ (aH hlt)))
  have HU:=zH (fun (h:0≤o.getD k 0∧o.getD k 0 < ns.length∧aY o (o.getD k 0)=k)=>(fun i (hi:i < k+1)=>by
   rcases Nat.lt_or_ge i k with h' | h'
   ·exact hq.out i h'
   ·obtain rfl:i=k:=by omega
    exact h:∀i,i < k+1→0≤o.getD i 0∧o.getD i 0 < ns.length∧aY o (o.getD i 0)=i))
  have ib1:(k:Int) < (o.length:Int):=by omega
  have HXR:=zH (HX1.out.trans hxr.out)
  clear hc hq
  generalize o.getD k 0=a at*
  by_cases h3:aY o a=k
  rotate_left
  ·have htw:(pf o k a).isSome=true:=by rw [HTW.out];simpa using h3
   have HE:=zH (li HB.out (HBY.out oM))
   clear HBY HU h3 HST HTW
   have p0:wr.cell? ⟨V.heap.size+1,0,none⟩=some (.slice none 0 0):=by simp [World.cell?,HRR.out]
   have p1:wr.cell? ⟨V.heap.size+1,1,none⟩=some (.slice none 0 0):=by simp [World.cell?,HRR.out]
   have p2:wr.frozen? ⟨V.heap.size+1,0,none⟩=false:=by simp [World.frozen?,HRR.out]
   have p3:wr.frozen? ⟨V.heap.size+1,1,none⟩=false:=by simp [World.frozen?,HRR.out]
   go_wp2_with (at_lookup;refine bp rfl (.tmp 37) (.tmp 38) rfl hM.out rfl a rfl WF.out ?_)
   ((try simp only [Exit.inBlock,Exit.then]);refine bodyPost_ret (v:= .tuple #[.agg #[.slice none 0 0,.slice none 0 0],.int .i64 1]) (by simp only [results,Tryz.results106];go_simp) rfl ?_)
   exact iA HE.out dM (((HXR.out).setCell sM _).setCell sM _)
  have htw:(pf o k a).isSome=false:=by rw [HTW.out];simpa using h3
  by_cases h1:a < 0
  ·have hd1:decide (a < 0)=true:=by simpa using h1
   have HE:=zH (li HB.out (HBY.out oM))
   clear HBY HU h3 HST HTW h1
   have p0:wr.cell? ⟨V.heap.size+1,0,none⟩=some (.slice none 0 0):=by simp [World.cell?,HRR.out]
   have p1:wr.cell? ⟨V.heap.size+1,1,none⟩=some (.slice none 0 0):=by simp [World.cell?,HRR.out]
   have p2:wr.frozen? ⟨V.heap.size+1,0,none⟩=false:=by simp [World.frozen?,HRR.out]
   have p3:wr.frozen? ⟨V.heap.size+1,1,none⟩=false:=by simp [World.frozen?,HRR.out]
   go_wp2_with (at_lookup;refine bp rfl (.tmp 37) (.tmp 38) rfl hM.out rfl a rfl WF.out ?_)
   ((try simp only [Exit.inBlock,Exit.then]);refine bodyPost_ret (v:= .tuple #[.agg #[.slice none 0 0,.slice none 0 0],.int .i64 1]) (by simp only [results,Tryz.results106];go_simp) rfl ?_)
   exact iA HE.out dM (((HXR.out).setCell sM _).setCell sM _)
  have hd1:decide (a < 0)=false:=by simpa using h1
  by_cases h2:a < ns.length
  rotate_left
  ·have hd2:decide ((ns.length:Int)≤a)=true:=by simpa using h2
   have HE:=zH (li HB.out (HBY.out oM))
   clear HBY HU h3 HST HTW h1 h2
   have p0:wr.cell? ⟨V.heap.size+1,0,none⟩=some (.slice none 0 0):=by simp [World.cell?,HRR.out]
   have p1:wr.cell? ⟨V.heap.size+1,1,none⟩=some (.slice none 0 0):=by simp [World.cell?,HRR.out]
   have p2:wr.frozen? ⟨V.heap.size+1,0,none⟩=false:=by simp [World.frozen?,HRR.out]
   have p3:wr.frozen? ⟨V.heap.size+1,1,none⟩=false:=by simp [World.frozen?,HRR.out]
   go_wp2_with (at_lookup;refine bp rfl (.tmp 37) (.tmp 38) rfl hM.out rfl a rfl WF.out ?_)
   ((try simp only [Exit.inBlock,Exit.then]);refine bodyPost_ret (v:= .tuple #[.agg #[.slice none 0 0,.slice none 0 0],.int .i64 1]) (by simp only [results,Tryz.results106];go_simp) rfl ?_)
   exact iA HE.out dM (((HXR.out).setCell sM _).setCell sM _)
  have hd2:decide ((ns.length:Int)≤a)=false:=by simpa using h2
  have HUU:=zH (HU.out ⟨by omega,h2,h3⟩)
  have HPF:=zH (HST.out h3)
  clear HBY HU h3 HST HTW h1 h2
  go_wp2_with (first
   | (at_lookup;refine bp rfl (.tmp 37) (.tmp 38) rfl hM.out rfl a rfl WF.out ?_)
   | (at_mapUpdate;refine iB rfl (.tmp 55) (.tmp 56) (.tmp 57) rfl hM.out rfl (by unfold maxLen;omega) a k rfl rfl WF.out (WalkArith.wf_i64 ⟨by omega,by omega⟩) ?_;intro w6 hm6 hg6;have HM6:=zH hm6;have HX6:Hid (Ext w1 w6):=zH (Below.grown hxr.out hg6 hxr.out.size (fun j hj=>by injection hj with hj;omega));clear hm6 hg6))
  go_roundw
  case rel=>exact ⟨k+1,by omega,by go_num,HX6,zH (by rw [←HPF.out];exact HM6.out),HUU⟩
  case measure=>simp [intOf];omega
theorem yF (G:GraphD) (A2:Option Addr) (cap2:Nat) (o:List Int) (V:World) (hG:GraphAt V G) (oG:GraphOk G) (hO:IntsAt V A2 o) (hol:o.length≤1000) (how:∀x∈o, -9223372036854775808≤x∧x≤9223372036854775807):
  Calls Tryz.prog 106 #[.agg #[.slice G.nA G.ns.length G.ncap,.slice G.rA G.rs.length G.rcap],.slice A2 o.length cap2] V (RetN V (renE G o) (renN G o) (renR G o)):=
 zi _ _ _ _ _ _ A2 cap2 o V hG.nodes hG.roots hO oG.nl oG.rl hol how oG.each oG.rv
theorem qe (G:GraphD) (A:Option Addr) (cap:Nat) (l:List Int) (n:Int) (V:World) (h:addS gg G.ns l=n) (hG:GraphAt V G) (hl:IntsAt V A l) (hlen:l.length≤9223372036854775807) (hn:G.ns.length≤9223372036854775807):
  Calls Tryz.prog 36 #[.agg #[.slice G.nA G.ns.length G.ncap,.slice G.rA G.rs.length G.rcap],.slice A l.length cap] V fun e w'=>e= .returned (.int .i64 n)∧Ext V w':=by
 rw [←h];exact rQ G A cap l V hG hl hlen hn
theorem sK (G:GraphD) (A:Option Addr) (cap:Nat) (l:List Int) (n:Int) (V:World) (h:addS (fun x=>x.fields.length) G.ns l=n) (hG:GraphAt V G) (hl:IntsAt V A l) (hlen:l.length≤9223372036854775807) (hn:G.ns.length≤9223372036854775807):
  Calls Tryz.prog 124 #[.agg #[.slice G.nA G.ns.length G.ncap,.slice G.rA G.rs.length G.rcap],.slice A l.length cap] V fun e w'=>e= .returned (.int .i64 n)∧Ext V w':=by
 rw [←h];exact pX G A cap l V hG hl hlen hn
theorem yG (G H:GraphD) (b:Bool) (W:World) (h:nF G H=b) (hG:GraphAt W G) (hH:GraphAt W H) (oG:GraphOk G) (oH:GraphOk H):
  Calls Tryz.prog 64 #[.agg #[.slice G.nA G.ns.length G.ncap,.slice G.rA G.rs.length G.rcap],.agg #[.slice H.nA H.ns.length H.ncap,.slice H.rA H.rs.length H.rcap]] W fun e w'=>e= .returned (.bool b)∧Ext W w':=by
 rw [←h];exact wQ G H W hG hH oG oH
theorem dp {α:Type} {n:Nat} {f:α→List Value} {w:World} {A:Option Addr} {xs:List α} (h:RowAt n f w A xs) (hf:∀x,∃k i,(f x)[0]?=some (Value.int k i)) {b:Nat} {s1 s2:Value} {t:TypeId} (hb:w.heap[b]?=some (.cells #[s1,s2] t (0,0)))
  (h1:∀k i,s1≠ .int k i) (h2:∀k i,s2≠ .int k i) (j:Nat) (u:Value):RowAt n f (w.setCell ⟨b,j,none⟩ u) A xs:=by
 obtain ⟨g,off,hA,hc⟩:=h
 refine ⟨g,off,hA,fun i x hx m v hv=> ?_⟩
 have hne:g≠b:=by
  intro e
  subst e
  obtain ⟨k,z,hz⟩:=hf x
  have h3:=hc i x hx 0 _ hz
  rw [(aB hb).1]at h3
  have hlt:off+i*n+0 < 2:=by
   rcases Nat.lt_or_ge (off+i*n+0) 2 with h4 | h4
   ·exact h4
   ·rw [Array.getElem?_eq_none (by simpa using h4)]at h3
    cases h3
  rcases Nat.lt_or_ge (off+i*n+0) 1 with h4 | h4
  ·have e0:off+i*n+0=0:=by omega
   rw [e0]at h3
   have h5:some s1=some (Value.int k z):=h3
   injection h5 with h5
   exact h1 _ _ h5
  ·have e0:off+i*n+0=1:=by omega
   rw [e0]at h3
   have h5:some s2=some (Value.int k z):=h3
   injection h5 with h5
   exact h2 _ _ h5
 have h3:=hc i x hx m v hv
 unfold World.cell? at h3⊢
 have e:=Below.heap_setCell w ⟨b,j,none⟩ u g hne
 simp only at e h3⊢
 rw [e]
 exact h3
theorem GraphAt.box {w:World} {H:GraphD} (h:GraphAt w H) {b:Nat} {s1 s2:Value} {t:TypeId} (hb:w.heap[b]?=some (.cells #[s1,s2] t (0,0))) (h1:∀k i,s1≠ .int k i) (h2:∀k i,s2≠ .int k i) (j:Nat) (u:Value):GraphAt (w.setCell ⟨b,j,none⟩ u) H:=
 ⟨⟨dp h.nodes.row (fun x=>⟨_,_,rfl⟩) hb h1 h2 j u,fun x hx=>⟨dp (h.nodes.each x hx).fields (fun x=>⟨_,_,rfl⟩) hb h1 h2 j u,dp (h.nodes.each x hx).raws (fun x=>⟨_,_,rfl⟩) hb h1 h2 j u⟩⟩,dp h.roots (fun x=>⟨_,_,rfl⟩) hb h1 h2 j u⟩
theorem OwnG.box {w:World} {B:Nat} {G:GraphD} (h:OwnG w B G) {b j:Nat} {u:Value} {cs:Array Value} (hb:w.heap[b]?=some (.cells cs 27 (0,0))):OwnG (w.setCell ⟨b,j,none⟩ u) B G:=
 ⟨h.nodes.setOther hb dM,fun x hx=>⟨(h.each x hx).f.setOther hb dM,(h.each x hx).r.setOther hb dM⟩,h.roots.setOther hb dM⟩
end Go.Proofs.YtphpppjfogpohaaGreat
