/- Merged by program (merge.py) out of: MapI, GraS, RenC, RenL, GraT, GraU, RchA, Gbx. -/
import Derived.Test.YtphpppjfogpohaaGreatMu34
import Derived.Test.YtphpppjfogpohaaGreatMu22
import Derived.Test.YtphpppjfogpohaaGreatMu7
import Derived.Test.YtphpppjfogpohaaGreatMu32
import Derived.Test.YtphpppjfogpohaaGreatMu4
set_option linter.unusedSimpArgs false
set_option linter.unusedVariables false
set_option maxRecDepth 100000
set_option maxHeartbeats 16000000
namespace Go.Proofs.YtphpppjfogpohaaGreat
open Go.RowKit Go.Shelf Go.Maps
end Go.Proofs.YtphpppjfogpohaaGreat
namespace Go.Proofs.YtphpppjfogpohaaGreat
end Go.Proofs.YtphpppjfogpohaaGreat
namespace Go.Proofs.YtphpppjfogpohaaGreat
open Go.RowKit Go.Shelf
def blk (c:NodeD):Option Nat:=(Value.slice c.fA c.fields.length c.fcap).ownBlock
structure VL where
 A:Option Addr
 cap:Nat
 xs:List (Int×Int)
instance :Inhabited VL:=⟨⟨none,0,[]⟩⟩
theorem rowAt_box {α:Type} {n:Nat} {f:α→List Value} {w:World} {A:Option Addr} {xs:List α} (h:RowAt n f w A xs) (hf:∀x,∃k i,(f x)[0]?=some (Value.int k i)) {b:Nat} {s1 s2:Value} {t:TypeId} (hb:w.heap[b]?=some (.cells #[s1,s2] t (0,0)))
  (h1:∀k i,s1≠ .int k i) (h2:∀k i,s2≠ .int k i) (j:Nat) (u:Value):RowAt n f (w.setCell ⟨b,j,none⟩ u) A xs:=by
 obtain ⟨g,off,hA,hc⟩:=h
 refine ⟨g,off,hA,fun i x hx m v hv=> ?_⟩
 have hne:g≠b:=by
  intro e
  subst e
  obtain ⟨k,z,hz⟩:=hf x
  have h3:=hc i x hx 0 _ hz
  rw [(cells_of hb).1]at h3
  have hlt:off+i*n+0 < 2:=by
   rcases Nat.lt_or_ge (off+i*n+0) 2 with h4 | h4
   ·exact h4
   ·rw [Array.getElem?_eq_none (by simpa using h4)]at h3
    cases h3
  rcases Nat.lt_or_ge (off+i*n+0) 1 with h4 | h4
  ·have e0:off+i*n+0=0:=by omega
   rw [e0]at h3
   have h5:some s1=some (Value.int k z):=h3
   injection h5 with h5
   exact h1 _ _ h5
  ·have e0:off+i*n+0=1:=by omega
   rw [e0]at h3
   have h5:some s2=some (Value.int k z):=h3
   injection h5 with h5
   exact h2 _ _ h5
 have h3:=hc i x hx m v hv
 unfold World.cell? at h3⊢
 have e:=Below.heap_setCell w ⟨b,j,none⟩ u g hne
 simp only at e h3⊢
 rw [e]
 exact h3
theorem GraphAt.box {w:World} {H:GraphD} (h:GraphAt w H) {b:Nat} {s1 s2:Value} {t:TypeId} (hb:w.heap[b]?=some (.cells #[s1,s2] t (0,0))) (h1:∀k i,s1≠ .int k i) (h2:∀k i,s2≠ .int k i) (j:Nat) (u:Value):GraphAt (w.setCell ⟨b,j,none⟩ u) H:=
 ⟨⟨rowAt_box h.nodes.row (fun x=>⟨_,_,rfl⟩) hb h1 h2 j u,fun x hx=>⟨rowAt_box (h.nodes.each x hx).fields (fun x=>⟨_,_,rfl⟩) hb h1 h2 j u,rowAt_box (h.nodes.each x hx).raws (fun x=>⟨_,_,rfl⟩) hb h1 h2 j u⟩⟩,rowAt_box h.roots (fun x=>⟨_,_,rfl⟩) hb h1 h2 j u⟩
end Go.Proofs.YtphpppjfogpohaaGreat
