/- Merged by program (merge.py) out of: PkV. -/
import Derived.Test.YtemmjmplhknemaaMp41
import Derived.Test.YtemmjmplhknemaaMp28
set_option linter.unusedSimpArgs false
set_option linter.unusedVariables false
set_option maxRecDepth 100000
set_option maxHeartbeats 16000000
namespace Go.Proofs.Ytemmjmplhknemaa
open Go.RowKit Go.Shelf
theorem wpList_storeStR {ops:Array Oper} {rest:List Oper} {o:Oper} {a:Act} {w:World} {Q:Exit→Act→World→Prop} (hg:o.guard=none) (p v:Operand) (hop:o.op=Op.store 28 p v) (X:Nat) (u0 u1 u2 u3 u4 u5 u6 u7 u8 u9 v0 v1 v2 v3 v4 v5 v6 v7 v8 v9:Value)
  (hp:a.eval p= .pointer (some ⟨X,0,none⟩)) (hv:a.eval v= .agg #[u0,u1,u2,u3,u4,u5,u6,u7,u8,u9]) (hb:w.heap[X]?=some (.cells #[v0,v1,v2,v3,v4,v5,v6,v7,v8,v9] 28 (0,0)))
  (h1:([u0,u1,u2,u3,u4,u5,u6,u7,u8,u9].all Value.oneCell')=true)
  (hK:∀w',w'.heap[X]?=some (.cells #[u0,u1,u2,u3,u4,u5,u6,u7,u8,u9] 28 (0,0))→(∀ {α:Type} {e:TypeId} {n:Nat} {f:α→List Value} {B:Nat} {v:Value} {xs:List α},28≠e→Own e n f w B v xs→Own e n f w' B v xs)→
   (∀V:World,Ext V w→V.heap.size≤X→Ext V w')→wpList Try.prog ops Q rest (a.put o.dst undef) w'):wpList Try.prog ops Q (o::rest) a w:=by
 simp only [List.all_cons,List.all_nil,Bool.and_true,Bool.and_eq_true]at h1
 obtain ⟨q0,q1,q2,q3,q4,q5,q6,q7,q8,q9⟩:=h1
 have r0:=run_store_blk (i:=0) (P:=Try.prog) (u:=u0) hb (by simp) q0
 have b0:(w.setCell ⟨X,0,none⟩ u0).heap[X]?=some (.cells #[u0,v1,v2,v3,v4,v5,v6,v7,v8,v9] 28 (0,0)):=blk_set hb u0
 have r1:=run_store_blk (i:=1) (P:=Try.prog) (u:=u1) b0 (by simp) q1
 have b1:((w.setCell ⟨X,0,none⟩ u0).setCell ⟨X,1,none⟩ u1).heap[X]?=some (.cells #[u0,u1,v2,v3,v4,v5,v6,v7,v8,v9] 28 (0,0)):=blk_set b0 u1
 have r2:=run_store_blk (i:=2) (P:=Try.prog) (u:=u2) b1 (by simp) q2
 have b2:(((w.setCell ⟨X,0,none⟩ u0).setCell ⟨X,1,none⟩ u1).setCell ⟨X,2,none⟩ u2).heap[X]?=some (.cells #[u0,u1,u2,v3,v4,v5,v6,v7,v8,v9] 28 (0,0)):=blk_set b1 u2
 have r3:=run_store_blk (i:=3) (P:=Try.prog) (u:=u3) b2 (by simp) q3
 have b3:((((w.setCell ⟨X,0,none⟩ u0).setCell ⟨X,1,none⟩ u1).setCell ⟨X,2,none⟩ u2).setCell ⟨X,3,none⟩ u3).heap[X]?=some (.cells #[u0,u1,u2,u3,v4,v5,v6,v7,v8,v9] 28 (0,0)):=blk_set b2 u3
 have r4:=run_store_blk (i:=4) (P:=Try.prog) (u:=u4) b3 (by simp) q4
 have b4:(((((w.setCell ⟨X,0,none⟩ u0).setCell ⟨X,1,none⟩ u1).setCell ⟨X,2,none⟩ u2).setCell ⟨X,3,none⟩ u3).setCell ⟨X,4,none⟩ u4).heap[X]?=some (.cells #[u0,u1,u2,u3,u4,v5,v6,v7,v8,v9] 28 (0,0)):=blk_set b3 u4
 have r5:=run_store_blk (i:=5) (P:=Try.prog) (u:=u5) b4 (by simp) q5
 have b5:((((((w.setCell ⟨X,0,none⟩ u0).setCell ⟨X,1,none⟩ u1).setCell ⟨X,2,none⟩ u2).setCell ⟨X,3,none⟩ u3).setCell ⟨X,4,none⟩ u4).setCell ⟨X,5,none⟩ u5).heap[X]?=some (.cells #[u0,u1,u2,u3,u4,u5,v6,v7,v8,v9] 28 (0,0)):=blk_set b4 u5
 have r6:=run_store_blk (i:=6) (P:=Try.prog) (u:=u6) b5 (by simp) q6
 have b6:(((((((w.setCell ⟨X,0,none⟩ u0).setCell ⟨X,1,none⟩ u1).setCell ⟨X,2,none⟩ u2).setCell ⟨X,3,none⟩ u3).setCell ⟨X,4,none⟩ u4).setCell ⟨X,5,none⟩ u5).setCell ⟨X,6,none⟩ u6).heap[X]?=some (.cells #[u0,u1,u2,u3,u4,u5,u6,v7,v8,v9] 28 (0,0)):=blk_set b5 u6
 have r7:=run_store_blk (i:=7) (P:=Try.prog) (u:=u7) b6 (by simp) q7
 have b7:((((((((w.setCell ⟨X,0,none⟩ u0).setCell ⟨X,1,none⟩ u1).setCell ⟨X,2,none⟩ u2).setCell ⟨X,3,none⟩ u3).setCell ⟨X,4,none⟩ u4).setCell ⟨X,5,none⟩ u5).setCell ⟨X,6,none⟩ u6).setCell ⟨X,7,none⟩ u7).heap[X]?=some (.cells #[u0,u1,u2,u3,u4,u5,u6,u7,v8,v9] 28 (0,0)):=blk_set b6 u7
 have r8:=run_store_blk (i:=8) (P:=Try.prog) (u:=u8) b7 (by simp) q8
 have b8:(((((((((w.setCell ⟨X,0,none⟩ u0).setCell ⟨X,1,none⟩ u1).setCell ⟨X,2,none⟩ u2).setCell ⟨X,3,none⟩ u3).setCell ⟨X,4,none⟩ u4).setCell ⟨X,5,none⟩ u5).setCell ⟨X,6,none⟩ u6).setCell ⟨X,7,none⟩ u7).setCell ⟨X,8,none⟩ u8).heap[X]?=some (.cells #[u0,u1,u2,u3,u4,u5,u6,u7,u8,v9] 28 (0,0)):=blk_set b7 u8
 have r9:=run_store_blk (i:=9) (P:=Try.prog) (u:=u9) b8 (by simp) q9
 have b9:((((((((((w.setCell ⟨X,0,none⟩ u0).setCell ⟨X,1,none⟩ u1).setCell ⟨X,2,none⟩ u2).setCell ⟨X,3,none⟩ u3).setCell ⟨X,4,none⟩ u4).setCell ⟨X,5,none⟩ u5).setCell ⟨X,6,none⟩ u6).setCell ⟨X,7,none⟩ u7).setCell ⟨X,8,none⟩ u8).setCell ⟨X,9,none⟩ u9).heap[X]?=some (.cells #[u0,u1,u2,u3,u4,u5,u6,u7,u8,u9] 28 (0,0)):=blk_set b8 u9
 refine wpList_plain hg fun K hK'=> ?_
 unfold Oper.wp
 simp only [execOp,hop,hp,hv]
 go_simp
 exact hK' _ _ (hK _ b9 (fun hne h=>own10 h hb hne _ _ _ _ _ _ _ _ _ _) (fun V h hX=>ext10x h hX _ _ _ _ _ _ _ _ _ _))
theorem at_body {P:Program} {f:Func} {Q:Ending→World→Prop} {e:Exit} {a:Act} {w:World} (h:bodyPost P f Q e a w):bodyPost P f Q e a w:=h
theorem at_stores {P:Program} {ops:Array Oper} {Q:Exit→Act→World→Prop} {rest:List Oper} {a:Act} {w:World} {d:Option Nat} {t ty:TypeId} {p v:Operand} {ps:String} {af:Array Edge} {g:Option (Nat×Bool)} (h:wpList P ops Q (⟨d,Op.store t p v,ty,ps,af,g⟩::rest) a w):wpList P ops Q (⟨d,Op.store t p v,ty,ps,af,g⟩::rest) a w:=h
theorem rtake_any {V:World} {X N:Nat} {st:Option (List UInt8)} {s:ByteArray} {b:Bool} (hN:N≤1000000) (h:RdS 49 V X N st s b) (n:Nat) (hn:n≤1000) (hn0:0 < n):Calls Try.prog 18 #[.pointer (some ⟨X,0,none⟩),.int .i64 n] V fun e w'=>∃(l:List UInt8),∃st' s' b',e= .returned (.string ⟨l.toArray⟩)∧(takeO n s.data.toList=some (l,s'.data.toList)∨(takeO n s.data.toList=none∧l=List.replicate n 0))∧RdS 49 w' X N st' s' b'∧Only X V w':=by
 have hs:s.size≤1000000:=Nat.le_trans h.sz hN
 by_cases hl:s.size < n
 ·refine (take_none h.blk hs hl hn).mono ?_
  rintro e w' ⟨rfl,hx⟩
  obtain ⟨h1,h2⟩:=h.none hx
  exact ⟨_,none,s,true,rfl,.inr ⟨by unfold takeO;rw [if_pos (by rw [ba_len];exact hl)],rfl⟩,h1,h2⟩
 ·refine (take_some h.blk hs (by omega)).mono ?_
  rintro e w' ⟨rfl,rfl⟩
  obtain ⟨h1,h2⟩:=h.some (r:=s.data.toList.drop n) (by rw [List.length_drop];omega) (Ext.refl _)
  exact ⟨_,_,_,_,rfl,.inl (by unfold takeO;rw [if_neg (by rw [ba_len];omega)]),h1,h2⟩
structure DecI (V:World) (N X S R:Nat) (cs:Array Value) (w:World) (st:Option (List UInt8)) (s:ByteArray) (b:Bool):Prop where
 rd:RdS 49 w X N st s b
 sb:w.heap[S]?=some (.cells cs 28 (0,0))
 rb:w.heap[R]?=some (.cells #[.int .i64 0,.int .i64 0,.int .i64 0,.int .i64 0,.bool false,.slice none 0 0,.int .i64 0,.slice none 0 0,.slice none 0 0,.slice none 0 0] 28 (0,0))
 ext:Ext V w
 ne:X≠S∧X≠R∧S≠R
 lo:V.heap.size≤X∧V.heap.size≤S∧V.heap.size≤R
section
variable {V w w' : World} {N X S R : Nat} {cs : Array Value} {st st' : Option (List UInt8)} {s s' : ByteArray} {b b' : Bool}
theorem DecI.only (h:DecI V N X S R cs w st s b) (hr:RdS 49 w' X N st' s' b') (ho:Only X w w'):DecI V N X S R cs w' st' s' b':=
 ⟨hr,(ho.block S (lt_of_heap h.sb) (by have:=h.ne;simpa using Ne.symm this.1)).trans h.sb,(ho.block R (lt_of_heap h.rb) (by have:=h.ne;simpa using Ne.symm this.2.1)).trans h.rb,Only.ext ho h.ext h.lo.1,h.ne,h.lo⟩
theorem DecI.grow (h:DecI V N X S R cs w st s b) (hx:Ext w w'):DecI V N X S R cs w' st s b:=
 ⟨h.rd.ext hx,(hx.block (lt_of_heap h.sb)).trans h.sb,(hx.block (lt_of_heap h.rb)).trans h.rb,h.ext.trans hx,h.ne,h.lo⟩
theorem DecI.set (h:DecI V N X S R cs w st s b) (i:Nat) (v:Value):DecI V N X S R (cs.setIfInBounds i v) (w.setCell ⟨S,i,none⟩ v) st s b:=
 ⟨⟨blk_set_other h.rd.blk v h.ne.1,h.rd.st,h.rd.sz⟩,blk_set h.sb v,blk_set_other h.rb v (Ne.symm h.ne.2.2),h.ext.setCell h.lo.2.1 v,h.ne,h.lo⟩
theorem DecI.mark (h:DecI V N X S R cs w st s b) (m:Bool):DecI V N X S R cs (w.setCell ⟨X,1,none⟩ (.bool m)) (if m then none else some s.data.toList) s m:=
 ⟨⟨blk_set (i:=1) h.rd.blk (.bool m),rfl,h.rd.sz⟩,blk_set_other h.sb _ (Ne.symm h.ne.1),blk_set_other h.rb _ (Ne.symm h.ne.2.1),h.ext.setCell h.lo.1 _,h.ne,h.lo⟩
theorem DecI.app (h:DecI V N X S R cs w st s b) {row:Option Nat} (hg:w.grownBy w' row) (hr:∀k,row=some k→V.heap.size≤k∧k≠X∧k≠S∧k≠R):DecI V N X S R cs w' st s b:=
 ⟨h.rd.other hg (fun e=>(hr X e.symm).2.1 rfl),(hg.block S (lt_of_heap h.sb) (fun e=>(hr S e.symm).2.2.1 rfl)).trans h.sb,(hg.block R (lt_of_heap h.rb) (fun e=>(hr R e.symm).2.2.2 rfl)).trans h.rb,Below.grown h.ext hg (Ext.size h.ext) (fun k e=>(hr k e).1),h.ne,h.lo⟩
theorem Own.only {α:Type} {e:TypeId} {n:Nat} {f:α→List Value} {B:Nat} {v:Value} {xs:List α} (h:Own e n f w B v xs) (hr:RdS 49 w X N st s b) (hne:49≠e) (ho:Only X w w'):Own e n f w' B v xs:=
 h.kept ho (.inr (Ne.symm (h.ne_block hr.blk hne)))
theorem own_apart {α β:Type} {e e2:TypeId} {n n2:Nat} {f:α→List Value} {g:β→List Value} {B B2:Nat} {v v2:Value} {xs:List α} {ys:List β} (h:Own e n f w B v xs) (h2:Own e2 n2 g w B2 v2 ys) (hne:e2≠e):v.ownBlock=none∨v.ownBlock≠v2.ownBlock:=by
 rcases h2.2 with ⟨rfl, -⟩ | ⟨g2,cap,cur,rfl, -,hg, -⟩
 ·cases v.ownBlock <;>simp [Value.ownBlock]
 ·exact .inr (Ne.symm (h.ne_block hg hne))
structure DecR (V w:World) (tv fv sv:Value) (tb fr:List (Int×Int)) (sl:List (Bool×Int×Int)):Prop where
 t:Own 62 2 spanC w V.heap.size tv tb
 f:Own 62 2 spanC w V.heap.size fv fr
 s:Own 56 3 slotC w V.heap.size sv sl
variable {tv fv sv : Value} {tb fr : List (Int × Int)} {sl sl2 : List (Bool × Int × Int)}
theorem DecR.ext (h:DecR V w tv fv sv tb fr sl) (hx:Ext w w'):DecR V w' tv fv sv tb fr sl:=⟨h.t.ext hx,h.f.ext hx,h.s.ext hx⟩
theorem DecR.only (h:DecR V w tv fv sv tb fr sl) (hr:RdS 49 w X N st s b) (ho:Only X w w'):DecR V w' tv fv sv tb fr sl:=⟨h.t.only hr (by decide) ho,h.f.only hr (by decide) ho,h.s.only hr (by decide) ho⟩
theorem DecR.setS (h:DecR V w tv fv sv tb fr sl) (hb:w.heap[S]?=some (.cells cs 28 (0,0))) (i:Nat) (u:Value):DecR V (w.setCell ⟨S,i,none⟩ u) tv fv sv tb fr sl:=⟨h.t.setOther hb (by decide),h.f.setOther hb (by decide),h.s.setOther hb (by decide)⟩
theorem DecR.lt (h:DecR V w tv fv sv tb fr sl):(∀k,tv.ownBlock=some k→k < w.heap.size)∧(∀k,fv.ownBlock=some k→k < w.heap.size)∧∀k,sv.ownBlock=some k→k < w.heap.size:=⟨fun k hk=>(World.ownsRow.lt h.t k hk).2,fun k hk=>(World.ownsRow.lt h.f k hk).2,fun k hk=>(World.ownsRow.lt h.s k hk).2⟩
theorem own_setE {α:Type} {e:TypeId} {n:Nat} {f:α→List Value} {B:Nat} {v:Value} {xs:List α} (h:Own e n f w B v xs) {E:Nat} (hlt:∀k,v.ownBlock=some k→k < E) (i:Nat) (u:Value):Own e n f (w.setCell ⟨E,i,none⟩ u) B v xs:=
 h.kept ((Only.refl E w).setCell i u) (.inr (fun e=>by have:=hlt E e;omega))
theorem DecR.setE (h:DecR V w tv fv sv tb fr sl) {E:Nat} (hlt:(∀k,tv.ownBlock=some k→k < E)∧(∀k,fv.ownBlock=some k→k < E)∧∀k,sv.ownBlock=some k→k < E) (i:Nat) (u:Value):DecR V (w.setCell ⟨E,i,none⟩ u) tv fv sv tb fr sl:=⟨own_setE h.t hlt.1 i u,own_setE h.f hlt.2.1 i u,own_setE h.s hlt.2.2 i u⟩
theorem DecI.setE (h:DecI V N X S R cs w st s b) {E:Nat} (hE:V.heap.size≤E∧E≠X∧E≠S∧E≠R) (i:Nat) (u:Value):DecI V N X S R cs (w.setCell ⟨E,i,none⟩ u) st s b:=
 h.app ((Only.refl E w).setCell i u) (fun k e=>by simp only [Option.some.injEq]at e;subst e;exact hE)
theorem DecR.app (h:DecR V w tv fv sv tb fr sl) {sv2:Value} (ho:Own 56 3 slotC w' V.heap.size sv2 sl2) (hg:w.grownBy w' sv.ownBlock):DecR V w' tv fv sv2 tb fr sl2:=
 ⟨h.t.kept hg (own_apart h.t h.s (by decide)),h.f.kept hg (own_apart h.f h.s (by decide)),ho⟩
theorem DecI.appS (h:DecI V N X S R cs w st s b) (hs:Own 56 3 slotC w V.heap.size sv sl) (hg:w.grownBy w' sv.ownBlock):DecI V N X S R cs w' st s b:=
 h.app hg (fun k e=>⟨(World.ownsRow.lt hs k e).1,fun e2=>hs.ne_block h.rd.blk (by decide) (by rw [←e2,e]),fun e2=>hs.ne_block h.sb (by decide) (by rw [←e2,e]),fun e2=>hs.ne_block h.rb (by decide) (by rw [←e2,e])⟩)
end
end Go.Proofs.Ytemmjmplhknemaa
