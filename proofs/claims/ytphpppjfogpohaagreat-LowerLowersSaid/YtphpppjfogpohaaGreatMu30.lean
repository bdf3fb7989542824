/- Merged by program (merge.py) out of: StO, StP, StS, IdP, StR, StW, OwnC, CkA, AwF. -/
import Derived.Test.YtphpppjfogpohaaGreatMu29
import Derived.Test.YtphpppjfogpohaaGreatMu16
import Derived.Test.YtphpppjfogpohaaGreatMu21
import Derived.Test.YtphpppjfogpohaaGreatMu20
import Derived.Test.YtphpppjfogpohaaGreatMu7
import Derived.Test.YtphpppjfogpohaaGreatMu14
import Derived.Test.YtphpppjfogpohaaGreatMu2
import Derived.Test.YtphpppjfogpohaaGreatMu18
set_option linter.unusedSimpArgs false
set_option linter.unusedVariables false
set_option maxRecDepth 100000
set_option maxHeartbeats 16000000
namespace Go.Proofs.YtphpppjfogpohaaGreat
open Go.RowKit Go.Shelf
section
variable {c0 c1 c2 c3 : Int} {sn : Bool} {wA : Option Addr} {ws : List Int} {wc : Nat} {top : Int} {tA : Option Addr} {tb : List (Int × Int)} {tc : Nat} {fA : Option Addr} {fr : List (Int × Int)} {fc : Nat} {sA : Option Addr} {sl : List (Bool × Int × Int)} {sc : Nat}
variable {V : World} {L : Nat} {p sm m : Value}
end
section
variable {c0 c1 c2 c3 : Int} {sn : Bool} {wA : Option Addr} {ws : List Int} {wc : Nat} {top : Int} {tA : Option Addr} {tb : List (Int × Int)} {tc : Nat} {fA : Option Addr} {fr : List (Int × Int)} {fc : Nat} {sA : Option Addr} {sl : List (Bool × Int × Int)} {sc : Nat}
variable {V : World}
end
theorem check_led {c0 c1 c2 c3:Int} {sn:Bool} {ws:List Int} {top:Int} {tb fr:List (Int×Int)} {sl:List (Bool×Int×Int)} (h:ledR (largeA c0 c1 c2 c3) (largeS c0 c1 c2 c3) tb fr=true):checkZ c0 c1 c2 c3 sn ws top tb fr sl=firstZ
 [cfgB c0 c1 c2 c3,decide ((ws.length:Int)=wordsZ c0 c1 c2 c3),topB c0 c1 c2 c3 sn top,decide (stopE (some ws) (halfA c0 c1 c2 c3 sn) (halfS c0 c1 c2 c3) top=0),(smallsL c0 c1 c2 c3 sn ws top).all (smallO (some ws) c0 c1 c2 c3),
  tb.all (largeO (some ws) c0 c1 c2 c3),slotsB sl c2,(smallsL c0 c1 c2 c3 sn ws top++tb.map (·.1)).all (fieldsO (some ws) (startsB (smallsL c0 c1 c2 c3 sn ws top) tb)),
  sl.all (handleB (startsB (smallsL c0 c1 c2 c3 sn ws top) tb))]:=by
 rw [checkZ,ruleL,h,Bool.true_and]
section
variable {c0 c1 c2 c3 : Int} {sn : Bool} {wA : Option Addr} {ws : List Int} {wc : Nat} {top : Int} {tA : Option Addr} {tb : List (Int × Int)} {tc : Nat} {fA : Option Addr} {fr : List (Int × Int)} {fc : Nat} {sA : Option Addr} {sl : List (Bool × Int × Int)} {sc : Nat}
end
theorem flat_setAt {α:Type} {n:Nat} {f:α→List Value} (hf:Cells n f) (y:α) (j:Nat) (hj:j < n) (u:Value):∀(xs:List α) (k:Nat) (hk:k < xs.length),f y=(f xs[k]).set j u→(xs.set k y).flatMap f=(xs.flatMap f).set (k*n+j) u:=by
 intro xs
 induction xs with
 | nil=>intro k hk;simp at hk
 | cons x xs ih=>
  intro k hk h
  have hl:(f x).length=n:=hf.1 x
  cases k with
  | zero=>
   simp only [List.set_cons_zero,List.flatMap_cons,Nat.zero_mul,Nat.zero_add]
   rw [List.set_append_left _ _ (by omega)]
   simp only [List.getElem_cons_zero]at h
   rw [h]
  | succ k=>
   simp only [List.set_cons_succ,List.flatMap_cons]
   have e:(k+1)*n+j=n+(k*n+j):=by rw [Nat.succ_mul];omega
   rw [List.set_append_right _ _ (by rw [hl,e];omega),hl,e,Nat.add_sub_cancel_left]
   congr 1
   exact ih k (by simpa using hk) (by simpa using h)
theorem own_setAt {α:Type} {e:TypeId} {n:Nat} {f:α→List Value} {w:World} {B g N cap:Nat} {xs:List α} (hf:Cells n f) (h:Own e n f w B (.slice (some ⟨g,0,none⟩) N cap) xs) (hn:xs.length=N) (k j:Nat) (hk:k < xs.length) (hj:j < n) (y:α) (u:Value) (hy:f y=(f xs[k]).set j u):
  Own e n f (w.setCell ⟨g,k*n+j,none⟩ u) B (.slice (some ⟨g,0,none⟩) N cap) (xs.set k y):=by
 unfold Own at h⊢
 rw [List.length_set,flat_setAt hf y j hj u xs k hk hy,hn]
 rw [hn]at h
 exact (World.ownsRow.stored h (k*n+j) u).1
structure StB (s:StD):Prop where
 wb:∀z∈s.ws,0≤z∧z < 18446744073709551616
 tbb:∀x∈s.tb,(-9223372036854775808≤x.1∧x.1≤9223372036854775807)
 sb:∀x∈s.sl,0≤x.2.2∧x.2.2 < 18446744073709551616
theorem stcheck_s (s:StD) (k:Int) (hk:checkZ s.c0 s.c1 s.c2 s.c3 s.snd s.ws s.top s.tb s.fr s.sl=k) (V:World) (h:StAt V s) (hl:StLe s) (hb:StB s):Calls Tryz.prog 19 #[.agg #[.int .i64 s.c0,.int .i64 s.c1,.int .i64 s.c2,.int .i64 s.c3,.bool s.snd,.slice s.wA s.ws.length s.wc,.int .i64 s.top,.slice s.tA s.tb.length s.tc,.slice s.fA s.fr.length s.fc,.slice s.sA s.sl.length s.sc]] V fun e w'=>e= .returned (.int .i64 k)∧Ext V w':=by
 subst hk
 exact stcheck_any V (pers_row h.w) (pers_row h.t) (pers_row h.f) (pers_row h.s) hl.w hl.t hl.f hl.s hb.wb hb.tbb hb.sb
section
variable {α : Type} {e : TypeId} {n : Nat} {f : α → List Value} {w : World} {B g N cap : Nat} {xs : List α}
theorem own_cellAt (hf:Cells n f) (h0:0 < n) (h:Own e n f w B (.slice (some ⟨g,0,none⟩) N cap) xs) (hn:xs.length=N) (k j:Nat) (hk:k < xs.length) (v:Value) (hv:(f xs[k])[j]?=some v):w.cell? ⟨g,k*n+j,none⟩=some v:=by
 subst hn
 have hr:=(own_row h hf h0).1
 obtain ⟨b,off,e1,hc⟩:=RowAt.get hr (by omega)
 injection e1 with e1
 injection e1 with e1 e2 _
 subst e1 e2
 have:=hc k xs[k] (by simp [hk]) j v hv
 simpa using this
theorem own_frozen (h:Own e n f w B (.slice (some ⟨g,0,none⟩) N cap) xs) (i:Nat):w.frozen? ⟨g,i,none⟩=false:=by
 obtain ⟨cur,hc⟩:=own_heap h
 exact (cells_of hc).2 i
theorem own_far {v:Value} (h:Own e n f w B v xs) (hg:g < B) (i:Nat) (u:Value):Own e n f (w.setCell ⟨g,i,none⟩ u) B v xs:=
 h.setNe (fun hv=>by have:=(own_lt h hv).1;omega)
end
section
variable {B g : Nat} {w : World} {s : StD}
theorem StOwn.far (h:StOwn B w s) (hg:g < B) (i:Nat) (u:Value):StOwn B (w.setCell ⟨g,i,none⟩ u) s:=⟨own_far h.w hg i u,own_far h.t hg i u,own_far h.f hg i u,own_far h.s hg i u⟩
theorem StOwn.setW (h:StOwn B w s) (hA:s.wA=some ⟨g,0,none⟩) (k:Nat) (z:Int):StOwn B (w.setCell ⟨g,k,none⟩ (.int .u64 z)) {s with ws:=s.ws.set k z}:=by
 have hw:=h.w
 rw [hA]at hw
 obtain ⟨cur,hc⟩:=own_heap hw
 refine ⟨?_,h.t.setOther hc (by decide),h.f.setOther hc (by decide),h.s.setOther hc (by decide)⟩
 simp only [List.length_set,hA]
 exact own_setU hw rfl k z
theorem StOwn.setS (h:StOwn B w s) (hA:s.sA=some ⟨g,0,none⟩) (k j:Nat) (hk:k < s.sl.length) (hj:j < 3) (y:Bool×Int×Int) (u:Value) (hy:slotC y=(slotC s.sl[k]).set j u):StOwn B (w.setCell ⟨g,k*3+j,none⟩ u) {s with sl:=s.sl.set k y}:=by
 have hs:=h.s
 rw [hA]at hs
 obtain ⟨cur,hc⟩:=own_heap hs
 refine ⟨h.w.setOther hc (by decide),h.t.setOther hc (by decide),h.f.setOther hc (by decide),?_⟩
 simp only [List.length_set,hA]
 exact own_setAt slotCells hs rfl k j hk hj y u hy
end
end Go.Proofs.YtphpppjfogpohaaGreat
