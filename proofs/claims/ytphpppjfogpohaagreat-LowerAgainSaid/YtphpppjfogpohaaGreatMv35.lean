/- Merged by program (merge.py) out of: MapI, GraS, RenC, RenL, GraT, GraU, RchA, Gbx. -/
import Derived.Test.YtphpppjfogpohaaGreatMv34
import Derived.Test.YtphpppjfogpohaaGreatMv22
import Derived.Test.YtphpppjfogpohaaGreatMv7
import Derived.Test.YtphpppjfogpohaaGreatMv32
import Derived.Test.YtphpppjfogpohaaGreatMv4
set_option linter.unusedSimpArgs false
set_option linter.unusedVariables false
set_option maxRecDepth 100000
set_option maxHeartbeats 16000000
namespace Go.Proofs.YtphpppjfogpohaaGreat
open Go.RowKit Go.Shelf Go.Maps
theorem zeroInt (w:World):(zeroValue 3).run Tryz.prog w= .ok (.int .i64 0) w:=by kernel_rfl
def MapOf (w:World) (b n:Nat) (f:Int→Option Int):Prop:=
 ∃D:DataW Unit,w.ownsMap Tryz.prog 3 (plainElem Tryz.prog 3) b n D∧IsMap D∧∀x,Maps.has D (keyI x)=(f x).isSome∧D.atKey (keyI x) (.lit (.int .i64 0))= .lit (.int .i64 ((f x).getD 0))
section
variable {w w' : World} {b n : Nat} {f : Int → Option Int}
theorem MapOf.made (w:World):MapOf (w.alloc (.map #[] 0)) w.heap.size 0 (fun _=>none):=
 ⟨.map [],World.ownsMap_made _ _ _ _,isMap_empty,fun x=>⟨rfl,rfl⟩⟩
theorem MapOf.ext (h:MapOf w b n f) (hx:Ext w w'):MapOf w' b n f:=by
 obtain ⟨D,⟨es,clock,hb,r⟩,h2⟩:=h
 exact ⟨D,⟨es,clock,(hx.block (Array.getElem?_eq_some_iff.1 hb).1).trans hb,r⟩,h2⟩
variable {ops : Array Oper} {rest : List Oper} {o : Oper} {a : Act} {Q : Exit → Act → World → Prop}
theorem wpList_map_put (hg:o.guard=none) (m x v:Operand) (hop:o.op=Op.mapUpdate 100 m x v) (h:MapOf w b n f) (hm:a.eval m= .map (some b)) (hn:n < maxLen) (k c:Int) (hx:a.eval x= .int .i64 k) (hv:a.eval v= .int .i64 c) (hk:(Lit.int .i64 k).wf=true) (hc:(Lit.int .i64 c).wf=true)
  (hK:∀w',MapOf w' b (n+1) (fun y=>if y=k then some c else f y)→w.grownBy w' (some b)→wpList Tryz.prog ops Q rest (a.put o.dst undef) w'):wpList Tryz.prog ops Q (o::rest) a w:=by
 obtain ⟨D,h1,h2,h3⟩:=h
 refine wpList_mapUpdate_own w hg m x v 100 hop 3 3 intKeyed Tryz.underlying100 (plainElem Tryz.prog 3) b n D hm h1 hn (.int .i64 k) (.int .i64 c) (keyI k) hx hv (keyOf_int_mk Tryz.underlying3 hk) (.lit (.int .i64 c)) [] (plainElem_int Tryz.underlying3 hc) ?_
 intro w' ho hgr
 refine hK w' ⟨_,ho,h2.put _ _,fun y=> ?_⟩ hgr
 by_cases hy:y=k
 ·subst hy
  simp only [if_true]
  exact ⟨has_put_same h2 (show WideAt.IsKeyLit (keyI y)from trivial) _,atKey_put_same h2 (show WideAt.IsKeyLit (keyI y)from trivial) _ _⟩
 ·simp only [if_neg hy]
  have hne:keyI y≠keyI k:=fun e=>hy (by injection e)
  rw [has_put_other hne,atKey_put_other hne]
  exact h3 y
end
end Go.Proofs.YtphpppjfogpohaaGreat
namespace Go.Proofs.YtphpppjfogpohaaGreat
def pf (o:List Int) (k:Nat) (y:Int):Option Int:=if 0≤placeZ o y∧placeZ o y < k then some (placeZ o y)else none
theorem pf_zero (o:List Int):pf o 0=fun _=>none:=by
 funext y
 unfold pf
 rw [if_neg (by omega)]
theorem pf_step {o:List Int} {k:Nat} (hk:k < o.length) (h:placeZ o (o.getD k 0)=k):(fun y=>if y=o.getD k 0 then some (k:Int)else pf o k y)=pf o (k+1):=by
 funext y
 by_cases hy:y=o.getD k 0
 ·rw [if_pos hy,hy]
  unfold pf
  rw [if_pos (by omega),h]
 ·rw [if_neg hy]
  unfold pf
  have hne:placeZ o y≠k:=fun e=>by
   rcases place_cases o y with ⟨h1,_⟩ | ⟨j,hj,h1,h2,_⟩
   ·omega
   ·have:j=k:=by omega
    subst this
    exact hy h2.symm
  by_cases h2:0≤placeZ o y∧placeZ o y < k
  ·rw [if_pos h2,if_pos (by omega)]
  ·rw [if_neg h2,if_neg (by omega)]
theorem pf_all {o:List Int} (y:Int):pf o o.length y=if placeZ o y < 0 then none else some (placeZ o y):=by
 have:=place_ge o y
 unfold pf
 by_cases h:placeZ o y < 0
 ·rw [if_neg (by omega),if_pos h]
 ·rw [if_pos (by omega),if_neg h]
end Go.Proofs.YtphpppjfogpohaaGreat
namespace Go.Proofs.YtphpppjfogpohaaGreat
open Go.RowKit Go.Shelf
def blk (c:NodeD):Option Nat:=(Value.slice c.fA c.fields.length c.fcap).ownBlock
structure VL where
 A:Option Addr
 cap:Nat
 xs:List (Int×Int)
instance :Inhabited VL:=⟨⟨none,0,[]⟩⟩
theorem rowAt_box {α:Type} {n:Nat} {f:α→List Value} {w:World} {A:Option Addr} {xs:List α} (h:RowAt n f w A xs) (hf:∀x,∃k i,(f x)[0]?=some (Value.int k i)) {b:Nat} {s1 s2:Value} {t:TypeId} (hb:w.heap[b]?=some (.cells #[s1,s2] t (0,0)))
  (h1:∀k i,s1≠ .int k i) (h2:∀k i,s2≠ .int k i) (j:Nat) (u:Value):RowAt n f (w.setCell ⟨b,j,none⟩ u) A xs:=by
 obtain ⟨g,off,hA,hc⟩:=h
 refine ⟨g,off,hA,fun i x hx m v hv=> ?_⟩
 have hne:g≠b:=by
  intro e
  subst e
  obtain ⟨k,z,hz⟩:=hf x
  have h3:=hc i x hx 0 _ hz
  rw [(cells_of hb).1]at h3
  have hlt:off+i*n+0 < 2:=by
   rcases Nat.lt_or_ge (off+i*n+0) 2 with h4 | h4
   ·exact h4
   ·rw [Array.getElem?_eq_none (by simpa using h4)]at h3
    cases h3
  rcases Nat.lt_or_ge (off+i*n+0) 1 with h4 | h4
  ·have e0:off+i*n+0=0:=by omega
   rw [e0]at h3
   have h5:some s1=some (Value.int k z):=h3
   injection h5 with h5
   exact h1 _ _ h5
  ·have e0:off+i*n+0=1:=by omega
   rw [e0]at h3
   have h5:some s2=some (Value.int k z):=h3
   injection h5 with h5
   exact h2 _ _ h5
 have h3:=hc i x hx m v hv
 unfold World.cell? at h3⊢
 have e:=Below.heap_setCell w ⟨b,j,none⟩ u g hne
 simp only at e h3⊢
 rw [e]
 exact h3
theorem GraphAt.box {w:World} {H:GraphD} (h:GraphAt w H) {b:Nat} {s1 s2:Value} {t:TypeId} (hb:w.heap[b]?=some (.cells #[s1,s2] t (0,0))) (h1:∀k i,s1≠ .int k i) (h2:∀k i,s2≠ .int k i) (j:Nat) (u:Value):GraphAt (w.setCell ⟨b,j,none⟩ u) H:=
 ⟨⟨rowAt_box h.nodes.row (fun x=>⟨_,_,rfl⟩) hb h1 h2 j u,fun x hx=>⟨rowAt_box (h.nodes.each x hx).fields (fun x=>⟨_,_,rfl⟩) hb h1 h2 j u,rowAt_box (h.nodes.each x hx).raws (fun x=>⟨_,_,rfl⟩) hb h1 h2 j u⟩⟩,rowAt_box h.roots (fun x=>⟨_,_,rfl⟩) hb h1 h2 j u⟩
theorem OwnG.box {w:World} {B:Nat} {G:GraphD} (h:OwnG w B G) {b j:Nat} {u:Value} {cs:Array Value} (hb:w.heap[b]?=some (.cells cs 27 (0,0))):OwnG (w.setCell ⟨b,j,none⟩ u) B G:=
 ⟨h.nodes.setOther hb (by decide),fun x hx=>⟨(h.each x hx).f.setOther hb (by decide),(h.each x hx).r.setOther hb (by decide)⟩,h.roots.setOther hb (by decide)⟩
end Go.Proofs.YtphpppjfogpohaaGreat
