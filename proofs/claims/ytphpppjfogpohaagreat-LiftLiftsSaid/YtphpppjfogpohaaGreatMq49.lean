/- Merged by program (merge.py) out of: Srt, Flt. -/
import Derived.Shelf.Sort.Plain
import Derived.Shelf.Slices.In.SortNone
import Derived.Sort.OwnSortedInts
import Derived.Test.YtphpppjfogpohaaGreatMq48
import Derived.Test.YtphpppjfogpohaaGreatMq32
import Derived.Test.YtphpppjfogpohaaGreatMq35
set_option linter.unusedSimpArgs false
set_option linter.unusedVariables false
set_option maxRecDepth 100000
set_option maxHeartbeats 16000000
namespace Go.Proofs
open Go.Shelf
def Tryz.lays189_ren:Go.Shelf.Ren:=⟨fun | 189=>122 | 125=>156 | 257=>155 | 128=>190 | 129=>191 | 294=>181 | 295=>182 | 296=>183 | 297=>184 | 298=>185 | 299=>186 | 216=>187 | 300=>188 | 301=>189 | 328=>213 | 329=>214 | 330=>215 | 331=>216 | 332=>217 | 215=>218 | 343=>231 | n=>n,fun | 28=>38 | 3=>3 | 46=>136 | 0=>0 | 51=>187 | 53=>61 | 4=>4 | 183=>223 | 182=>222 | 131=>184 | 5=>5 | 9=>9 | 218=>248 | 222=>252 | 228=>261 | 229=>170 | n=>n,fun | n=>n⟩
theorem Tryz.lays189:Go.Proofs.Lays.n189 Tryz.prog Tryz.lays189_ren:= {
 mixed:=by kernel_rfl
 f125:=Tryz.func156.trans (congrArg some (by kernel_rfl))
 f128:=Tryz.func190.trans (congrArg some (by kernel_rfl))
 f129:=Tryz.func191.trans (congrArg some (by kernel_rfl))
 f189:=Tryz.func122.trans (congrArg some (by kernel_rfl))
 f215:=Tryz.func218.trans (congrArg some (by kernel_rfl))
 f216:=Tryz.func187.trans (congrArg some (by kernel_rfl))
 f257:=Tryz.func155.trans (congrArg some (by kernel_rfl))
 f294:=Tryz.func181.trans (congrArg some (by kernel_rfl))
 f295:=Tryz.func182.trans (congrArg some (by kernel_rfl))
 f296:=Tryz.func183.trans (congrArg some (by kernel_rfl))
 f297:=Tryz.func184.trans (congrArg some (by kernel_rfl))
 f298:=Tryz.func185.trans (congrArg some (by kernel_rfl))
 f299:=Tryz.func186.trans (congrArg some (by kernel_rfl))
 f300:=Tryz.func188.trans (congrArg some (by kernel_rfl))
 f301:=Tryz.func189.trans (congrArg some (by kernel_rfl))
 f328:=Tryz.func213.trans (congrArg some (by kernel_rfl))
 f329:=Tryz.func214.trans (congrArg some (by kernel_rfl))
 f330:=Tryz.func215.trans (congrArg some (by kernel_rfl))
 f331:=Tryz.func216.trans (congrArg some (by kernel_rfl))
 f332:=Tryz.func217.trans (congrArg some (by kernel_rfl))
 f343:=Tryz.func231.trans (congrArg some (by kernel_rfl))
 t0:=Tryz.underlying0
 a0:=Tryz.isAgg0
 z0:=Tryz.sizeOf0
 v0:=Tryz.zeroValue0
 t3:=Tryz.underlying3
 a3:=Tryz.isAgg3
 z3:=Tryz.sizeOf3
 v3:=Tryz.zeroValue3
 t4:=Tryz.underlying4
 a4:=Tryz.isAgg4
 z4:=Tryz.sizeOf4
 v4:=Tryz.zeroValue4
 t5:=Tryz.underlying5
 a5:=Tryz.isAgg5
 z5:=Tryz.sizeOf5
 v5:=Tryz.zeroValue5
 t9:=Tryz.underlying9
 a9:=Tryz.isAgg9
 z9:=Tryz.sizeOf9
 v9:=Tryz.zeroValue9
 t28:=Tryz.underlying38
 a28:=Tryz.isAgg38
 z28:=Tryz.sizeOf38
 v28:=Tryz.zeroValue38
 t46:=Tryz.underlying136
 a46:=Tryz.isAgg136
 z46:=Tryz.sizeOf136
 v46:=Tryz.zeroValue136
 t51:=Tryz.underlying187
 a51:=Tryz.isAgg187
 z51:=Tryz.sizeOf187
 v51:=Tryz.zeroValue187
 t53:=Tryz.underlying61
 a53:=Tryz.isAgg61
 z53:=Tryz.sizeOf61
 v53:=Tryz.zeroValue61
 t131:=Tryz.underlying184
 a131:=Tryz.isAgg184
 z131:=Tryz.sizeOf184
 v131:=Tryz.zeroValue184
 t182:=Tryz.underlying222
 a182:=Tryz.isAgg222
 z182:=Tryz.sizeOf222
 v182:=Tryz.zeroValue222
 t183:=Tryz.underlying223
 a183:=Tryz.isAgg223
 z183:=Tryz.sizeOf223
 v183:=Tryz.zeroValue223
 t218:=Tryz.underlying248
 a218:=Tryz.isAgg248
 z218:=Tryz.sizeOf248
 v218:=Tryz.zeroValue248
 t222:=Tryz.underlying252
 a222:=Tryz.isAgg252
 z222:=Tryz.sizeOf252
 v222:=Tryz.zeroValue252
 t228:=Tryz.underlying261
 a228:=Tryz.isAgg261
 z228:=Tryz.sizeOf261
 v228:=Tryz.zeroValue261
 t229:=Tryz.underlying170
 a229:=Tryz.isAgg170
 z229:=Tryz.sizeOf170
 v229:=Tryz.zeroValue170}
open Go.Sort Go.RowKit in
theorem Tryz.slices_Sort_int (blk off cap:Nat) (zs:List Int) (w:World) (hH:Holds (Value.int .i64) w blk off zs.toArray) (hblk:blk < w.heap.size) (hsz:zs.length < 4611686018427387904):
  Calls Tryz.prog 122 #[.slice (some ⟨blk,off,none⟩) zs.length cap] w fun e w'=>
   e= .returned (.tuple #[])∧∃n os,w'=grow (putRow (Value.int .i64) (Sort.ahead w n) blk off (zs.mergeSort fun x y=>decide (x≤y)).toArray) os:=Any.slices_Sort_int Tryz.lays189 blk off cap zs w hH hblk hsz
open Go.RowKit Go.Sort in
theorem Tryz.slices_Sort_int_none (p:Option Addr) (cap:Nat) (w:World):
  Calls Tryz.prog 122 #[.slice p 0 cap] w fun e w'=>e= .returned (.tuple #[])∧w'=w:=Any.slices_Sort_int_none Tryz.lays189 p cap w
end Go.Proofs
namespace Go.Proofs.YtphpppjfogpohaaGreat
open Go.RowKit Go.Shelf
theorem nh (l:List Int):l.map (Value.int .i64)=l.flatMap intC:=by
 induction l with
 | nil=>rfl
 | cons x l ih=>rw [List.map_cons,List.flatMap_cons,ih];rfl
theorem xW {V:World} {B:Nat} {A:Option Addr} {cap:Nat} {zs:List Int} (h:Own 3 1 intC V B (.slice A zs.length cap) zs) (hlen:zs.length≤1000000):
  Calls Tryz.prog 122 #[.slice A zs.length cap] V fun e w'=>e= .returned (.tuple #[])∧Own 3 1 intC w' B (.slice A zs.length cap) (fG zs)∧V.grownBy w' (Value.slice A zs.length cap).ownBlock:=by
 have hl:(fG zs).length=zs.length:=List.length_mergeSort ..
 by_cases h0:zs= []
 ·subst h0
  refine (Tryz.slices_Sort_int_none A cap V).mono ?_
  rintro e w1 ⟨rfl,rfl⟩
  exact ⟨rfl,by rw [show fG []= []from by simp [fG]];exact h,World.grownBy.refl _ _⟩
 obtain ⟨g,rfl,hB,hlt⟩:=bR h h0
 rcases h.2 with ⟨hn,_⟩ | ⟨g',cap',cur,hv,hb,hg,hc,hcm,hcs,ht⟩
 ·cases hn
 injection hv with e1 e2 e3
 injection e1 with e1
 injection e1 with e1
 subst e1 e3
 have hfl:(zs.flatMap intC).length=zs.length:=by have:=cU aO zs;omega
 rw [Nat.mul_one,←nh]at ht
 refine (Tryz.slices_Sort_int g 0 cap zs V (Go.holds_of_blockI hg ht) hlt (by omega)).mono ?_
 rintro e w1 ⟨rfl,n,os,rfl⟩
 refine ⟨rfl,?_,Go.grownBy_sortedI _⟩
 have:=Go.ownsRow_sortedI (n:=n) (os:=os) (base:=B) hl hb hg hc hcm hcs
 unfold Own
 rw [hl,←nh]
 exact this
end Go.Proofs.YtphpppjfogpohaaGreat
namespace Go.Proofs.YtphpppjfogpohaaGreat
open Go.RowKit Go.Shelf
theorem fJ {w:World} {B:Nat} {A:Option Addr} {cap:Nat} {xs:List Int} (h:Own 3 1 intC w B (.slice A xs.length cap) xs):IntsAt w A xs:=by
 obtain ⟨A',c',e,h2,_⟩:=h.form aO (by decide)
 injection e with e1 _ _
 subst e1
 exact h2
def ju (V:World) (S:List Int) (c:Int) (e:Ending) (w':World):Prop:=
 ∃A cap,e= .returned (.tuple #[.slice A S.length cap,.int .i64 c])∧Own 3 1 intC w' V.heap.size (.slice A S.length cap) S∧Ext V w'
theorem iW {G:GraphD} (oG:GOk G) {lim ord blk:Int} (hl: -9223372036854775808≤lim∧lim≤9223372036854775807) (hb: -9223372036854775808≤blk∧blk≤9223372036854775807):(planS G lim ord blk).length+(planL G lim ord blk).length≤1000:=by
 unfold planS planL
 by_cases he:ap G lim ord blk=0
 ·rw [if_pos he,if_pos he]
  unfold ap at he
  cases hR:aV G with
  | false=>rw [hR]at he;exact absurd he (by simp)
  | true=>
   rw [hR,if_pos rfl]at he
   cases hA:argB lim ord blk with
   | true=>rw [hA]at he;exact absurd he (by decide)
   | false=>
    obtain ⟨a1,a2,a3,a4⟩:=kQ hA
    have hRG:=RchG.of oG.1 oG.2 hR ⟨a1,hl.2⟩ ⟨a2,hb.2⟩
    have:=(l8 hRG.env ord.toNat (roots:=G.rs) (by rw [aX];have:=hRG.pg.roots;simpa using this)).1.met_le
    have hn:=hRG.n
    rw [aX]at this
    unfold PlD.met at this
    rw [aN,aN]
    unfold planD
    omega
 ·rw [if_neg he,if_neg he];simp
theorem tZ (G:GraphD) (lim ord blk:Int) (S L:List Int) (c:Int) (hS:planS G lim ord blk=S) (hL:planL G lim ord blk=L) (hc:ap G lim ord blk=c) (V:World) (hG:GraphAt V G) (oG:GOk G) (hl: -9223372036854775808≤lim∧lim≤9223372036854775807) (hb: -9223372036854775808≤blk∧blk≤9223372036854775807):
  Calls Tryz.prog 123 #[.agg #[.slice G.nA G.ns.length G.ncap,.slice G.rA G.rs.length G.rcap],.int .i64 lim,.int .i64 ord,.int .i64 blk] V (qg V S L c):=by
 subst hS hL hc;exact xV G lim ord blk V hG oG hl hb
theorem mN (G:GraphD) (lim ord blk:Int) (S L:List Int) (c:Int) (hS:planS G lim ord blk=S) (hL:planL G lim ord blk=L) (hc:ap G lim ord blk=c) (V:World) (hG:GraphAt V G) (oG:GOk G) (hl: -9223372036854775808≤lim∧lim≤9223372036854775807) (hb: -9223372036854775808≤blk∧blk≤9223372036854775807):
  Calls Tryz.prog 127 #[.agg #[.slice G.nA G.ns.length G.ncap,.slice G.rA G.rs.length G.rcap],.int .i64 lim,.int .i64 ord,.int .i64 blk] V (qg V S L c):=by
 subst hS hL hc;exact qi G lim ord blk V hG oG hl hb
theorem t6 (G:GraphD) (ord:Int) (S:List Int) (c:Int) (hS:planS G 1048576 ord 1=S) (hc:ap G 1048576 ord 1=c) (V:World) (hG:GraphAt V G) (oG:GOk G):Calls Tryz.prog 112 #[.agg #[.slice G.nA G.ns.length G.ncap,.slice G.rA G.rs.length G.rcap],.int .i64 ord] V (ju V S c):=by
 have hx0:=(AD V).alloc (.cells #[.slice G.nA G.ns.length G.ncap,.slice G.rA G.rs.length G.rcap] 27)
 have hBx:=aG V #[.slice G.nA G.ns.length G.ncap,.slice G.rA G.rs.length G.rcap] 27 _ rfl
 have HPL:=zH (tZ G 1048576 ord 1 S _ c hS rfl hc _ (hG.ext hx0) oG ⟨by decide,by decide⟩ ⟨by decide,by decide⟩)
 have HX:=zH hx0
 have kB:=(aB hBx.here).1
 clear hx0 hG oG hS hc
 generalize planL G 1048576 ord 1=L at*
 go_enter Tryz.func112,Tryz.ntmps112
 go_wp2_with fail
 refine HPL.out.mono ?_
 rintro e w1 ⟨A1,c1,A2,c2,rfl,h1,h2, -,hx⟩
 have H1:=zH (h1.mono HX.out.size)
 have HX1:=zH (HX.out.trans hx)
 clear h1 h2 hx kB HPL
 go_wp2_with fail
 ((try simp only [Exit.inBlock,Exit.then]);refine bodyPost_ret (v:= .tuple #[.slice A1 S.length c1,.int .i64 c]) (by simp only [results,Tryz.results112];go_simp) rfl ?_)
 exact ⟨A1,c1,rfl,H1.out,HX1.out⟩
theorem s7 (G:GraphD) (ord:Int) (S:List Int) (c:Int) (hS:planS G 1000000 ord 1=S) (hc:ap G 1000000 ord 1=c) (V:World) (hG:GraphAt V G) (oG:GOk G):Calls Tryz.prog 125 #[.agg #[.slice G.nA G.ns.length G.ncap,.slice G.rA G.rs.length G.rcap],.int .i64 ord] V (ju V S c):=by
 have hx0:=(AD V).alloc (.cells #[.slice G.nA G.ns.length G.ncap,.slice G.rA G.rs.length G.rcap] 27)
 have hBx:=aG V #[.slice G.nA G.ns.length G.ncap,.slice G.rA G.rs.length G.rcap] 27 _ rfl
 have HPL:=zH (mN G 1000000 ord 1 S _ c hS rfl hc _ (hG.ext hx0) oG ⟨by decide,by decide⟩ ⟨by decide,by decide⟩)
 have HX:=zH hx0
 have kB:=(aB hBx.here).1
 clear hx0 hG oG hS hc
 generalize planL G 1000000 ord 1=L at*
 go_enter Tryz.func125,Tryz.ntmps125
 go_wp2_with fail
 refine HPL.out.mono ?_
 rintro e w1 ⟨A1,c1,A2,c2,rfl,h1,h2, -,hx⟩
 have H1:=zH (h1.mono HX.out.size)
 have HX1:=zH (HX.out.trans hx)
 clear h1 h2 hx kB HPL
 go_wp2_with fail
 ((try simp only [Exit.inBlock,Exit.then]);refine bodyPost_ret (v:= .tuple #[.slice A1 S.length c1,.int .i64 c]) (by simp only [results,Tryz.results125];go_simp) rfl ?_)
 exact ⟨A1,c1,rfl,H1.out,HX1.out⟩
theorem mO (G:GraphD) (S:List Int) (c:Int) (hS:planS G 1048576 0 1=S) (hc:ap G 1048576 0 1=c) (V:World) (hG:GraphAt V G) (oG:GOk G):Calls Tryz.prog 66 #[.agg #[.slice G.nA G.ns.length G.ncap,.slice G.rA G.rs.length G.rcap]] V (ju V S c):=by
 have hx0:=(AD V).alloc (.cells #[.slice G.nA G.ns.length G.ncap,.slice G.rA G.rs.length G.rcap] 27)
 have hBx:=aG V #[.slice G.nA G.ns.length G.ncap,.slice G.rA G.rs.length G.rcap] 27 _ rfl
 have HPL:=zH (t6 G 0 S c hS hc _ (hG.ext hx0) oG)
 have HX:=zH hx0
 have kB:=(aB hBx.here).1
 clear hx0 hG oG hS hc
 go_enter Tryz.func66,Tryz.ntmps66
 go_wp2_with fail
 refine HPL.out.mono ?_
 rintro e w1 ⟨A1,c1,rfl,h1,hx⟩
 have H1:=zH (h1.mono HX.out.size)
 have HX1:=zH (HX.out.trans hx)
 clear h1 hx kB HPL
 go_wp2_with fail
 ((try simp only [Exit.inBlock,Exit.then]);refine bodyPost_ret (v:= .tuple #[.slice A1 S.length c1,.int .i64 c]) (by simp only [results,Tryz.results66];go_simp) rfl ?_)
 exact ⟨A1,c1,rfl,H1.out,HX1.out⟩
theorem xX (G:GraphD) (S:List Int) (c:Int) (hS:planS G 1048576 1 1=S) (hc:ap G 1048576 1 1=c) (V:World) (hG:GraphAt V G) (oG:GOk G):Calls Tryz.prog 121 #[.agg #[.slice G.nA G.ns.length G.ncap,.slice G.rA G.rs.length G.rcap]] V (ju V S c):=by
 have hx0:=(AD V).alloc (.cells #[.slice G.nA G.ns.length G.ncap,.slice G.rA G.rs.length G.rcap] 27)
 have hBx:=aG V #[.slice G.nA G.ns.length G.ncap,.slice G.rA G.rs.length G.rcap] 27 _ rfl
 have HPL:=zH (t6 G 1 S c hS hc _ (hG.ext hx0) oG)
 have HX:=zH hx0
 have kB:=(aB hBx.here).1
 clear hx0 hG oG hS hc
 go_enter Tryz.func121,Tryz.ntmps121
 go_wp2_with fail
 refine HPL.out.mono ?_
 rintro e w1 ⟨A1,c1,rfl,h1,hx⟩
 have H1:=zH (h1.mono HX.out.size)
 have HX1:=zH (HX.out.trans hx)
 clear h1 hx kB HPL
 go_wp2_with fail
 ((try simp only [Exit.inBlock,Exit.then]);refine bodyPost_ret (v:= .tuple #[.slice A1 S.length c1,.int .i64 c]) (by simp only [results,Tryz.results121];go_simp) rfl ?_)
 exact ⟨A1,c1,rfl,H1.out,HX1.out⟩
theorem xY (G:GraphD) (S:List Int) (c:Int) (hS:fG (planS G 1048576 1 1)=S) (hc:ap G 1048576 1 1=c) (V:World) (hG:GraphAt V G) (oG:GOk G):Calls Tryz.prog 72 #[.agg #[.slice G.nA G.ns.length G.ncap,.slice G.rA G.rs.length G.rcap]] V (ju V S c):=by
 have hx0:=(AD V).alloc (.cells #[.slice G.nA G.ns.length G.ncap,.slice G.rA G.rs.length G.rcap] 27)
 have hBx:=aG V #[.slice G.nA G.ns.length G.ncap,.slice G.rA G.rs.length G.rcap] 27 _ rfl
 have HPL:=zH (xX G _ c rfl hc _ (hG.ext hx0) oG)
 have HLE:Hid ((planS G 1048576 1 1).length≤1000):=zH (by have:=iW oG (lim:=1048576) (ord:=1) (blk:=1) ⟨by decide,by decide⟩ ⟨by decide,by decide⟩;omega)
 have HLS:Hid ((planS G 1048576 1 1).length=S.length):=zH (by rw [←hS];exact (List.length_mergeSort ..).symm)
 have HS:=zH hS
 have HX:=zH hx0
 have kB:=(aB hBx.here).1
 clear hx0 hG oG hS hc
 generalize planS G 1048576 1 1=S0 at*
 go_enter Tryz.func72,Tryz.ntmps72
 go_wp2_with fail
 refine HPL.out.mono ?_
 rintro e w1 ⟨A1,c1,rfl,h1,hx⟩
 have H1:=zH (h1.mono HX.out.size)
 have HX1:=zH (HX.out.trans hx)
 clear h1 hx kB HPL
 go_wp2_with fail
 refine (xW H1.out (by have:=HLE.out;omega)).mono ?_
 rintro e w2 ⟨rfl,h2,hg⟩
 have H2:=zH h2
 have HX2:=zH (H1.out.grown hg (Nat.le_refl _) HX1.out)
 clear h2 hg H1
 go_wp2_with fail
 ((try simp only [Exit.inBlock,Exit.then]);refine bodyPost_ret (v:= .tuple #[.slice A1 S0.length c1,.int .i64 c]) (by simp only [results,Tryz.results72];go_simp) rfl ?_)
 exact ⟨A1,c1,by rw [HLS.out],by have:=H2.out;rw [HS.out,HLS.out]at this;exact this,HX2.out⟩
end Go.Proofs.YtphpppjfogpohaaGreat
