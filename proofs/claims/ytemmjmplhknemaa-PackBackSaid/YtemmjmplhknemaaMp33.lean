/- Merged by program (merge.py) out of: PkQ. -/
import Derived.Test.YtemmjmplhknemaaMp1
import Derived.Test.YtemmjmplhknemaaMp29
import Derived.Test.YtemmjmplhknemaaMp32
set_option linter.unusedSimpArgs false
set_option linter.unusedVariables false
set_option maxRecDepth 100000
set_option maxHeartbeats 16000000
namespace Go.Proofs.Ytemmjmplhknemaa
open Go.RowKit Go.Shelf
def hdS (s:StD):List UInt8:=mgB++putB s.c0++putB s.c1++putB s.c2++putB s.c3++tfB s.snd++putB s.top++spB s.tb++spB s.fr
def encS (s:StD):List UInt8:=hdS s++slB s.sl++wdB (s.ws.length+1) s.ws
noncomputable def pkC (s:StD):Int:=checkZ s.c0 s.c1 s.c2 s.c3 s.snd s.ws s.top s.tb s.fr s.sl
theorem pk_led {a n:Int} {xs fs:List (Int×Int)} (h:ledR a n xs fs=true):(xs.map (·.1)).Pairwise (· < ·)∧∀x∈xs,a≤x.1∧x.1 < a+n:=by
 unfold ledR ledB at h
 rw [Bool.and_eq_true,Bool.and_eq_true]at h
 obtain ⟨⟨h1,h2⟩, -⟩:=h
 obtain ⟨h3,h4⟩:=chain_iff.1 h2
 refine ⟨?_,fun x hx=> ?_⟩
 ·refine List.Pairwise.map _ (fun x y hxy=> ?_) (List.Pairwise.and_mem.1 h4)
  obtain ⟨hx,hy,hle⟩:=hxy
  have:=h3 x hx
  simp only [mayB,decide_eq_true_eq]at this
  omega
 ·have h5:=List.all_eq_true.1 h1 x hx
  simp only [withinB,mayB,Bool.and_eq_true,decide_eq_true_eq]at h5
  omega
theorem pk_nodup:∀(n:Nat) (l:List Nat),l.Nodup→(∀i∈l,i < n)→l.length≤n
 | 0,l,_,h=>by
  cases l with
  | nil=>simp
  | cons x l=>exact absurd (h x (List.mem_cons_self ..)) (by omega)
 | n+1,l,hd,h=>by
  by_cases hn:n∈l
  ·have h1 := pk_nodup n (l.erase n) (hd.erase n) (fun i hi => by
    have h2:=h i (List.mem_of_mem_erase hi)
    have h3:i≠n:=fun e=>by subst e;exact hd.not_mem_erase hi
    omega)
   rw [List.length_erase_of_mem hn]at h1
   omega
  ·have h1 := pk_nodup n l hd (fun i hi => by
    have h2:=h i hi
    have h3:i≠n:=fun e=>by subst e;exact hn hi
    omega)
   omega
theorem wdB_fuel:∀(f g:Nat) (l:List Int),l.length < f→l.length < g→wdB f l=wdB g l
 | 0,_,l,h,_=>absurd h (by omega)
 | _+1,0,l,_,h=>absurd h (by omega)
 | f+1,g+1,l,hf,hg=>by
  unfold wdB
  by_cases h0:l= []
  ·rw [if_pos h0,if_pos h0]
  rw [if_neg h0,if_neg h0]
  have e1:l.takeWhile (·==0)++l.dropWhile (·==0)=l:=List.takeWhile_append_dropWhile
  have hd:=List.head?_dropWhile_not (·==0) l
  generalize l.takeWhile (·==0)=zs at*
  generalize l.dropWhile (·==0)=ys at*
  have l1:zs.length+ys.length=l.length:=by rw [←e1,List.length_append]
  by_cases hy:ys= []
  ·rw [if_pos hy,if_pos hy]
  rw [if_neg hy,if_neg hy]
  have hu:0 < (ys.takeWhile (· !=0)).length:=by
   cases ys with
   | nil=>exact absurd rfl hy
   | cons y t=>
    have hd:(y==0)=false:=hd
    have hd2:(y !=0)=true:=by simpa using hd
    rw [List.takeWhile_cons,hd2]
    simp
  have e2:ys.takeWhile (· !=0)++ys.dropWhile (· !=0)=ys:=List.takeWhile_append_dropWhile
  have l2:(ys.takeWhile (· !=0)).length+(ys.dropWhile (· !=0)).length=ys.length:=by rw [←List.length_append,e2]
  rw [wdB_fuel f g (ys.dropWhile (· !=0)) (by omega) (by omega)]
def decO (t:UInt8→Bool) (ms:Int) (b:List UInt8):Option (StD×List UInt8):=
 (takeO 4 b).bind fun m=>if m.1≠mgB then none else
 (numO 32768 m.2).bind fun a0=>(numO 32768 a0.2).bind fun a1=>(numO ms a1.2).bind fun a2=>(numO 32768 a2.2).bind fun a3=>
 (truO t a3.2).bind fun sn=>(numO 98304 sn.2).bind fun tp=>(listO 32768 spanO tp.2).bind fun tb=>(listO 32768 spanO tb.2).bind fun fr=>(listO 1024 (slotO t) fr.2).bind fun sl=>
 (wordsO (sl.2.length+(wordsZ a0.1 a1.1 a2.1 a3.1).toNat+1) (wordsZ a0.1 a1.1 a2.1 a3.1).toNat sl.2).map fun w=>
  (⟨a0.1,a1.1,a2.1,a3.1,sn.1,none,w.1,0,tp.1,none,tb.1,0,none,fr.1,0,none,sl.1,0⟩,w.2)
theorem list_put {α:Type} {most:Int} {f:List UInt8→Option (α×List UInt8)} {g:α→List UInt8} {l:List α} {r:List UInt8} (hl:(l.length:Int)≤most) (h2:(l.length:Int) < 9223372036854775808) (h:∀x∈l,∀r,f (g x++r)=some (x,r)):listO most f (putB l.length++(l.flatMap g++r))=some (l,r):=by
 rw [←List.append_assoc]
 exact list_flat hl h2 h
theorem starts_le {a n:Int} (hn:0≤n) {l:List (Int×Int)} (h:(l.map (·.1)).Pairwise (· < ·)) (h2:∀x∈l,a≤x.1∧x.1 < a+n):l.length≤n.toNat:=by
 have:=pk_nodup n.toNat ((l.map (·.1)).map fun z=>(z - a).toNat) (by
  refine List.Pairwise.map _ (fun x y hxy=> ?_) (List.Pairwise.and_mem.1 h)
  obtain ⟨hx,hy,hlt⟩:=hxy
  obtain ⟨x',hx',rfl⟩:=List.mem_map.1 hx
  obtain ⟨y',hy',rfl⟩:=List.mem_map.1 hy
  have:=h2 x' hx'
  have:=h2 y' hy'
  omega) (fun i hi=>by
  obtain ⟨z,hz,rfl⟩:=List.mem_map.1 hi
  obtain ⟨x,hx,rfl⟩:=List.mem_map.1 hz
  have:=h2 x hx
  omega)
 simpa using this
structure PkB (s:StD):Prop where
 c:(0≤s.c0∧s.c0≤32768)∧(0≤s.c1∧s.c1≤32768)∧(0≤s.c2∧s.c2≤1024)∧(0≤s.c3∧s.c3≤32768)
 top:0≤s.top∧s.top≤98304
 tl:s.tb.length≤32768
 fl:s.fr.length≤32768
 tb:∀x∈s.tb,0≤x.1∧x.1≤1099511627776∧0≤x.2∧x.2≤1099511627776
 fr:∀x∈s.fr,0≤x.1∧x.1≤1099511627776∧0≤x.2∧x.2≤1099511627776
 sl:s.sl.length≤1024
 se:∀x∈s.sl,0≤x.2.1∧x.2.1≤1099511627776
 wn:(s.ws.length:Int)=wordsZ s.c0 s.c1 s.c2 s.c3
 wl:s.ws.length≤98304
theorem PkB.of {s:StD} (h:pkC s=0):PkB s:=by
 have H:=check_ok h
 have hc:=H.cfg
 have hc2:=hc
 simp only [cfgB,decide_eq_true_eq]at hc2
 have ht:=H.tp
 simp only [topB,decide_eq_true_eq]at ht
 have hla:0≤largeA s.c0 s.c1 s.c2 s.c3∧largeA s.c0 s.c1 s.c2 s.c3≤65536∧0≤largeS s.c0 s.c1 s.c2 s.c3∧largeS s.c0 s.c1 s.c2 s.c3≤32768:=by
  simp only [largeA,largeS,hc,if_true]
  split <;>omega
 have hhf:0≤halfA s.c0 s.c1 s.c2 s.c3 s.snd∧halfA s.c0 s.c1 s.c2 s.c3 s.snd+halfS s.c0 s.c1 s.c2 s.c3≤65536:=by
  simp only [halfA,halfS,hc,if_true]
  split <;>omega
 have hwz:wordsZ s.c0 s.c1 s.c2 s.c3=2*s.c0+s.c1:=by simp only [wordsZ,hc,if_true]
 obtain ⟨l1,l2⟩:=pk_led H.led
 obtain ⟨g1,g2⟩:=ledR_iff.1 H.led
 have hlen:=of_decide_eq_true H.len
 have hsl:=H.slots
 simp only [slotsB,Bool.and_eq_true,decide_eq_true_eq]at hsl
 have hgw:∀x∈s.fr,largeA s.c0 s.c1 s.c2 s.c3≤x.1∧1≤x.2∧x.1+x.2≤largeA s.c0 s.c1 s.c2 s.c3+largeS s.c0 s.c1 s.c2 s.c3:=fun x hx=>by
  have:=gap_within g2 hx
  simp only [withinB,mayB,Bool.and_eq_true,decide_eq_true_eq]at this
  omega
 have htw:∀x∈s.tb,largeA s.c0 s.c1 s.c2 s.c3≤x.1∧1≤x.2∧x.1+x.2≤largeA s.c0 s.c1 s.c2 s.c3+largeS s.c0 s.c1 s.c2 s.c3:=fun x hx=>by
  have h3:=g1
  unfold ledB at h3
  rw [Bool.and_eq_true]at h3
  have:=List.all_eq_true.1 h3.1 x hx
  simp only [withinB,mayB,Bool.and_eq_true,decide_eq_true_eq]at this
  omega
 refine ⟨by omega,by omega,?_,?_,fun x hx=> ?_,fun x hx=> ?_,by omega,fun x hx=> ?_,hlen,by omega⟩
 ·have:=starts_le (a:=largeA s.c0 s.c1 s.c2 s.c3) (n:=largeS s.c0 s.c1 s.c2 s.c3) hla.2.2.1 l1 l2
  omega
 ·have hp : (s.fr.map (·.1)).Pairwise (· < ·) := by
   refine List.Pairwise.map _ (fun x y hxy=> ?_) (List.Pairwise.and_mem.1 g2.apart)
   obtain ⟨hx,hy,hlt⟩:=hxy
   have:=hgw x hx
   omega
  have:=starts_le (a:=largeA s.c0 s.c1 s.c2 s.c3) (n:=largeS s.c0 s.c1 s.c2 s.c3) hla.2.2.1 hp (fun x hx=>by have:=hgw x hx;omega)
  omega
 ·have:=htw x hx
  omega
 ·have:=hgw x hx
  omega
 ·have:=List.all_eq_true.1 hsl.1 x hx
  simp only [slotB,goodB,Bool.and_eq_true,Bool.or_eq_true,decide_eq_true_eq,beq_iff_eq]at this
  omega
theorem dec_enc {t:UInt8→Bool} (h0:t 0=false) (h1:t 1=true) {ms:Int} (hm:1024≤ms) {s:StD} (h:pkC s=0) (hb:StB s) (r:List UInt8):
  decO t ms (encS s++r)=some (⟨s.c0,s.c1,s.c2,s.c3,s.snd,none,s.ws,0,s.top,none,s.tb,0,none,s.fr,0,none,s.sl,0⟩,r):=by
 have B:=PkB.of h
 obtain ⟨⟨c1,c2⟩,⟨c3,c4⟩,⟨c5,c6⟩,c7,c8⟩:=B.c
 have hwn:=B.wn
 have hwl:=B.wl
 have htl:=B.tl
 have hfl:=B.fl
 have hsl:=B.sl
 unfold decO encS hdS spB slB
 simp only [List.append_assoc]
 rw [take_app (l:=mgB) (n:=4) rfl,Option.bind_some,if_neg (fun e=>e rfl)]
 simp only
 rw [num_put c1 c2 (by omega),Option.bind_some,num_put c3 c4 (by omega),Option.bind_some,num_put c5 (by omega) (by omega),Option.bind_some,num_put c7 c8 (by omega),Option.bind_some,tru_tr h0 h1,Option.bind_some,num_put B.top.1 B.top.2 (by have:=B.top;omega),Option.bind_some,
  list_put (by omega) (by omega) (fun x hx r=>span_put (B.tb x hx)),Option.bind_some,list_put (by omega) (by omega) (fun x hx r=>span_put (B.fr x hx)),Option.bind_some]
 have hs:=list_put (most:=1024) (f:=slotO t) (g:=fun x:Bool×Int×Int=>tfB x.1++putB x.2.1++w8B x.2.2) (l:=s.sl) (r:=wdB (s.ws.length+1) s.ws++r) (by omega) (by omega) (fun x hx r=>slot_put h0 h1 ⟨(B.se x hx).1,(B.se x hx).2,(hb.sb x hx).1,(hb.sb x hx).2⟩)
 simp only [List.append_assoc]at hs
 rw [hs,Option.bind_some]
 simp only
 have hw:∀F,s.ws.length < F→wordsO F s.ws.length (wdB (s.ws.length+1) s.ws++r)=some (s.ws,r):=fun F hF=>by
  rw [wdB_fuel (s.ws.length+1) F s.ws (by omega) hF]
  exact words_wd F s.ws r hF (by omega) hb.wb
 rw [show (wordsZ s.c0 s.c1 s.c2 s.c3).toNat=s.ws.length by omega,hw _ (by omega)]
 rfl
theorem enc_inj {s u:StD} (hs:pkC s=0) (bs:StB s) (hu:pkC u=0) (bu:StB u) {r:List UInt8} (h:encS s++r=encS u):eqvS s u=true∧r= []:=by
 have e1:=dec_enc (t:=fun c=>c !=0) rfl rfl (Int.le_refl 1024) hs bs r
 have e2:=dec_enc (t:=fun c=>c !=0) rfl rfl (Int.le_refl 1024) hu bu []
 rw [List.append_nil,←h,e1]at e2
 simp only [Option.some.injEq,Prod.mk.injEq,StD.mk.injEq]at e2
 obtain ⟨⟨a,b,c,d,e, -,f, -,g, -,i, -, -,j, -, -,k, -⟩,hr⟩:=e2
 exact ⟨eqvS_iff.2 ⟨⟨a,b,c,d⟩,e,g,f,i,j,k⟩,hr⟩
theorem enc_eqv {s u:StD} (h:eqvS s u=true):encS s=encS u:=by
 obtain ⟨⟨a,b,c,d⟩,e,g,f,i,j,k⟩:=eqvS_iff.1 h
 unfold encS hdS
 rw [a,b,c,d,e,g,f,i,j,k]
end Go.Proofs.Ytemmjmplhknemaa
