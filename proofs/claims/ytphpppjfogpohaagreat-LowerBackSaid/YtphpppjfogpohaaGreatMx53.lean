/- Merged by program (merge.py) out of: CnR, CnS, LfG. -/
import Derived.Laws.CopyOwn
import Derived.Test.YtphpppjfogpohaaGreatMx52
set_option linter.unusedSimpArgs false
set_option linter.unusedVariables false
set_option maxRecDepth 100000
set_option maxHeartbeats 16000000
namespace Go.Proofs.YtphpppjfogpohaaGreat
open Go.RowKit Go.Shelf
theorem mask_fin:∀n:Fin 1001,bits BinOp.and IntKind.u64 ((n:Nat):Int) 4294967295=((n:Nat):Int)∧IntKind.u64.wrap ((n:Nat):Int)=((n:Nat):Int):=by decide+kernel
theorem mul64_any (n:Nat) (hn:n≤1000) (V:World):Calls Tryz.prog 151 #[.int .u64 1,.int .u64 n] V fun e w'=>e= .returned (.tuple #[.int .u64 0,.int .u64 n])∧w'=V:=by
 have h1:bits BinOp.and IntKind.u64 1 4294967295=1:=by decide+kernel
 have h2:bits BinOp.and IntKind.u64 0 4294967295=0:=by decide+kernel
 have h3:=(mask_fin ⟨n,by omega⟩).1
 have h4:=(mask_fin ⟨n,by omega⟩).2
 have h5:((n:Int)/4294967296)=0:=by omega
 simp only at h3 h4
 go_enter Tryz.func151,Tryz.ntmps151
 go_wp2_with fail
 go_returns
 simp [h1,h2,h3,h4,h5]
theorem mul_any (n:Nat) (hn:n≤1000) (V:World):Calls Tryz.prog 111 #[.int .u64 1,.int .u64 n] V fun e w'=>e= .returned (.tuple #[.int .u64 0,.int .u64 n])∧w'=V:=by
 have h4:=(mask_fin ⟨n,by omega⟩).2
 simp only at h4
 go_enter Tryz.func111,Tryz.ntmps111
 go_wp2_with fail
 refine (mul64_any n hn _).mono ?_
 rintro e w1 ⟨rfl,rfl⟩
 go_wp2_with fail
 go_returns
 exact ⟨rfl,rfl⟩
def noneV (n k:Nat):List Value:=(noneK n k).map (Value.int .i64)
theorem noneV_len {n k:Nat} (h:k≤n):(noneV n k).length=n:=by simp [noneV,noneK_len h]
def negV (c:Nat):List Value:=List.replicate c (Value.int .i64 (-1))
theorem negV_len {c:Nat}:(negV c).length=c:=by simp [negV]
theorem splice_none {n k c:Nat} (h:k+c≤n):splice (noneV n k) k (negV c)=noneV n (k+c):=by
 unfold splice noneV noneK negV
 rw [List.length_replicate,List.map_append,List.map_append,List.map_replicate,List.map_replicate,List.map_replicate,List.map_replicate]
 rw [List.take_append_of_le_length (by simp),List.take_of_length_le (by simp),List.drop_append,List.drop_of_length_le (by simp)]
 rw [List.nil_append,List.drop_replicate,List.length_replicate,←List.append_assoc,List.replicate_append_replicate]
 congr 2
 omega
theorem intInfo1:(Tryz.prog.info? 3).map (·.size)=some 1:=by kernel_rfl
theorem full_own {w:World} {B g n:Nat} {xs:List Int} (hg:w.heap[g]?=some (.cells (xs.map (Value.int .i64)).toArray 3 (0,0))) (hB:B≤g) (hn:xs.length=n) (hm:n≤maxLen):Own 3 1 intC w B (.slice (some ⟨g,0,none⟩) n n) xs:=by
 subst hn
 refine ⟨by rw [←map_flatC];simp,.inr ⟨g,xs.length,_,rfl,hB,hg,Nat.le_refl _,hm,by simp,?_⟩⟩
 rw [←map_flatC]
 exact List.take_of_length_le (by simp)
theorem own_full {w:World} {B g n:Nat} {xs:List Int} (h:Own 3 1 intC w B (.slice (some ⟨g,0,none⟩) n n) xs) (hn:xs.length=n):w.heap[g]?=some (.cells (xs.map (Value.int .i64)).toArray 3 (0,0)):=by
 subst hn
 rcases h.2 with ⟨hn,_⟩ | ⟨g',cap',cur,hv,hb,hg,hc,hcm,hcs,ht⟩
 ·cases hn
 injection hv with e1 e2 e3
 injection e1 with e1
 injection e1 with e1
 subst e1 e3
 rw [hg,map_flatC,←ht,List.take_of_length_le (by rw [Array.length_toList,hcs];omega)]
theorem neg_one {c:Nat}:∀v∈negV c,v.oneCell'=true:=by
 intro v hv
 rw [List.eq_of_mem_replicate hv]
 rfl
theorem neg_src {c n b j:Nat} {v:Value} {w:World} (hv:(negV c)[j]?=some v) (hc:(negV c).length=Nat.min 1 n) (hb:w.cell? ⟨b,0,none⟩=some (.int .i64 (-1))):w.cell? ((⟨b,0,none⟩:Addr).add j)=some v:=by
 have hj:j < (negV c).length:=by
  rcases Nat.lt_or_ge j (negV c).length with h | h
  ·exact h
  ·rw [List.getElem?_eq_none h]at hv;cases hv
 have h1:(negV c).length≤1:=by rw [hc];exact Nat.min_le_left _ _
 have h0:j=0:=by omega
 subst h0
 have h2:v=Value.int .i64 (-1):=List.eq_of_mem_replicate (List.mem_of_getElem? hv)
 rw [h2]
 exact hb
theorem wp_copy_splice {P:Program} {o:Oper} {a:Act} {w:World} {K:Act→World→Prop} {Q:Exit→Act→World→Prop} (hgd:o.guard=none) (d s:Operand) (dT sT:TypeId)
  (ho:o.op= .call {callee:= .builtin .copy,args:= #[d,s],argTypes:= #[dT,sT]}) (elem:TypeId) (hu:P.underlying dT=some (.slice elem)) (hsz:(P.info? elem).map (·.size)=some 1)
  (dp sp:Option Addr) (dLen dCap sLen sCap:Nat) (hd:a.eval d= .slice dp dLen dCap) (hs:a.eval s= .slice sp sLen sCap)
  (g off:Nat) (cur:List Value) (t:TypeId) (hg:w.heap[g]?=some (.cells cur.toArray t (0,0))) (cs:List Value) (hn:cs.length=Nat.min sLen dLen)
  (hpos:0 < cs.length→dp=some ⟨g,off,none⟩∧∃ad,sp=some ad∧∀j v,cs[j]?=some v→w.cell? (ad.add j)=some v)
  (hfit:off+cs.length≤cur.length) (h1:∀v∈cs,v.oneCell'=true) (B:Nat) (w0:World) (hb:RowKit.Below B w0 w) (hBg:B≤g)
  (h:∀w',RowKit.Hid (w'.heap[g]?=some (.cells (splice cur off cs).toArray t (0,0)))→RowKit.Below B w0 w'→K (a.put o.dst (goInt cs.length)) w'):Oper.wp P o a w K Q:=by
 have hw:Region.wanted o (yielded #[] a.tmps)=true:=by simp [Region.wanted,hgd]
 have:=step_copy_splice (ops:= #[]) (E:=False) (Q:=Q) hgd d s dT sT ho elem hu hsz dp sp dLen dCap sLen sCap hd hs g off cur t hg cs hn hpos hfit h1 B w0 hb hBg h
 rwa [if_pos hw]at this
theorem neg_row {n k c j g:Nat} {v:Value} {w:World} (hv:(negV c)[j]?=some v) (hc:(negV c).length≤k) (hk:k≤n) (hb:w.heap[g]?=some (.cells (noneV n k).toArray 3 (0,0))):w.cell? ((⟨g,0,none⟩:Addr).add j)=some v:=by
 have hj:j < (negV c).length:=by
  rcases Nat.lt_or_ge j (negV c).length with h | h
  ·exact h
  ·rw [List.getElem?_eq_none h]at hv;cases hv
 have h2:v=Value.int .i64 (-1):=List.eq_of_mem_replicate (List.mem_of_getElem? hv)
 have e:(⟨g,0,none⟩:Addr).add j=⟨g,j,none⟩:=by
  unfold Addr.add
  split <;>simp_all
 rw [e,(cells_of hb).1,h2]
 have hl:j < (noneV n k).length:=by rw [noneV_len hk];omega
 rw [List.getElem?_toArray,List.getElem?_eq_getElem hl]
 simp only [noneV,noneK,List.getElem_map]
 rw [List.getElem_append_left (by simp;omega)]
 simp
theorem repeat_any (n:Nat) (hn:n≤1000) (b:Nat) (V:World) (hb:V.cell? ⟨b,0,none⟩=some (.int .i64 (-1))):
  Calls Tryz.prog 65 #[.slice (some ⟨b,0,none⟩) 1 1,.int .i64 n] V fun e w'=>∃g,e= .returned (.slice (some ⟨g,0,none⟩) n n)∧Own 3 1 intC w' V.heap.size (.slice (some ⟨g,0,none⟩) n n) (List.replicate n (-1))∧Ext V w':=by
 have HB:=zH hb
 clear hb
 have h4:=(mask_fin ⟨n,by omega⟩).2
 simp only at h4
 go_enter Tryz.func65,Tryz.ntmps65
 go_wp2_with fail
 refine (mul_any n hn _).mono ?_
 rintro e w1 ⟨rfl,rfl⟩
 have hmin:(negV (if n=0 then 0 else 1)).length=Nat.min 1 n:=by
  rw [negV_len]
  simp only [Nat.min_def]
  split <;>split <;>omega
 have HMIN:=zH hmin
 clear hmin
 obtain ⟨c0,hc0⟩:∃c,(if n=0 then 0 else 1)=c:=⟨_,rfl⟩
 rw [hc0]at HMIN
 have HC0:=zH hc0
 have hsz:w1.heap.size=w1.heap.size:=rfl
 generalize hX:w1.heap.size=X at hsz
 have HXX:=zH hX
 clear hc0 hsz hX
 go_wp2_with (at_make;refine wpList_makeI rfl (.tmp 29) rfl n rfl (by omega) ?_;intro w2 hown hx;have HO:=zH (own_full hown (by simp));have HX:=zH hx;clear hown hx;refine Hid.out ?_)
 refine zH ?_
 go_wp2_with (refine wpList_copy_splice rfl (.tmp 31) (.tmp 32) 38 38 rfl 3 Tryz.underlying38 intInfo1 (some ⟨w1.heap.size,0,none⟩) (some ⟨b,0,none⟩) n n 1 1 (by rfl) (by rfl) w1.heap.size 0 ((List.replicate n (0:Int)).map (Value.int .i64)) 3 HO.out (negV c0) HMIN.out (fun _=>⟨rfl,_,rfl,fun j v hv=>(neg_src hv HMIN.out (HX.out.cell HB.out))⟩) (by rw [HMIN.out];simp;exact Nat.min_le_right _ _) neg_one w1.heap.size w1 HX.out (Nat.le_refl _) ?_;intro w3 hg3 hb3;have HO3:=hg3;have HX3:=zH (show Ext w1 w3 from hb3);clear hg3 hb3)
 have HO4:Hid (w3.heap[w1.heap.size]?=some (.cells (noneV n c0).toArray 3 (0,0))):=zH (by
  have h:=HO3.out
  have e:(List.replicate n (0:Int)).map (Value.int .i64)=noneV n 0:=by simp [noneV,noneK]
  rw [e,splice_none (by have:=HC0.out;split at this <;>omega),Nat.zero_add]at h
  exact h)
 have HLE:Hid (c0≤n∧(0 < n→0 < c0)):=zH (by have:=HC0.out;split at this <;>omega)
 rw [negV_len]
 clear HO3 HO HX HMIN HC0 HB
 go_loopw [8] (fun i wr=>∃k:Nat,k≤n∧(0 < n→0 < k)∧i= .int .i64 k∧Hid (Ext w1 wr)∧Hid (wr.heap[w1.heap.size]?=some (.cells (noneV n k).toArray 3 (0,0)))) (fun i _=>n - (intOf i).toNat)
 case atStart=>exact ⟨c0,HLE.out.1,HLE.out.2,rfl,HX3,HO4⟩
 case round=>
  obtain ⟨k,hk,hk0,rfl,hxk,hO⟩:=hrel
  clear HX3 HO4 HLE
  by_cases hlt:k < n
  rotate_left
  ·obtain rfl:k=n:=by omega
   clear hlt
   go_wp2_with fail
   go_returns
   refine ⟨w1.heap.size,rfl,?_,hxk.out⟩
   have e:noneK k k=List.replicate k (-1):=by simp [noneK]
   rw [←e]
   exact full_own hO.out (Nat.le_refl _) (noneK_len (Nat.le_refl _)) (by simp [maxLen];omega)
  go_wp2_with fail
  have hyd:=(Ext.refl wr).drew
  have hGP:BoxK w1.heap.size (noneV n k).toArray 3 wr.drew:=BoxK.ext hO.out hyd
  have ib0:(0:Int)≤(k:Int):=by omega
  have ib1:(k:Int)≤(n:Int):=by omega
  have hmin:(negV (min k (n - k))).length=Nat.min k (n - k):=negV_len
  have hcl:k+min k (n - k)≤n:=by omega
  have hcp:0 < min k (n - k):=by have:=hk0 (by omega);omega
  have hck:min k (n - k)≤k:=by omega
  generalize hc:min k (n - k)=c at*
  have HMIN:=zH hmin
  have HCL:=zH hcl
  have HCP:=zH hcp
  have HCK:=zH hck
  have HGP:=zH hGP
  have HXK:=zH (hxk.out.trans hyd)
  clear hmin hc hcl hcp hck hO hxk hk0
  (refine wp_region_gp (w:=wr) (fun _=>True) (.rd [0] (.wk [7,8,9] (.rd [1,2,3,4,5,6] (.bar [] (.one 7 (.rd [8,9] .tl)))))) [] (by kernel_rfl) (by kernel_rfl) (by intro c a d v w h;first | exact h | (cases d <;>first | exact h | (cases h;done) | cases h.1.1 | cases h.1)) trivial ?_;(refine gp_rd ?_;(try simp only [opsOf,List.map_cons,List.map_nil,List.getD_cons_zero,List.getD_cons_succ]);(repeat (go_big_quiet_step (fail)));refine wpQuiet_nil ?_);refine gp_wk (fun _=>trivial) (fun w'=>∃u:KeptOf (wr).drew (BoxK w1.heap.size (noneV n k).toArray 3),w'=u.1) (kept_mk hGP) ?_)
  (refine gp_rd ?_;(try simp only [opsOf,List.map_cons,List.map_nil,List.getD_cons_zero,List.getD_cons_succ]);(repeat (go_big_quiet_step (fail)));refine wpQuiet_nil ?_)
  (refine gp_bar (fun _=>True) trivial ?_)
  clear hGP hyd
  generalize wr.drew=wd at*
  refine gp_one (by (try simp only [List.getD_cons_succ,List.getD_cons_zero]);rfl) (by rfl) ?_
  intro K hK
  refine wp_copy_splice rfl (.tmp 41) (.tmp 44) 38 38 rfl 3 Tryz.underlying38 intInfo1 (some ⟨w1.heap.size,k,none⟩) (some ⟨w1.heap.size,0,none⟩) (n - k) (n - k) k n (by rfl) (by rfl) w1.heap.size k (noneV n k) 3 HGP.out (negV c) HMIN.out (fun _=>⟨rfl,_,rfl,fun j v hv=>neg_row hv (by rw [negV_len];exact HCK.out) hk HGP.out⟩) (by rw [negV_len,noneV_len hk];exact HCL.out) neg_one w1.heap.size w1 HXK.out (Nat.le_refl _) ?_
  intro w5 hg5 hb5
  rw [splice_none HCL.out]at hg5
  have HO5:=hg5
  have HX5:=zH (show Ext w1 w5 from hb5)
  refine hK _ _ _ (fun _ h=>h) trivial ?_
  clear hK K hg5 hb5 HGP HXK HMIN
  have hwr:wrap64 ((k:Int)+((negV c).length:Int))=((k+c:Nat):Int):=by
   rw [negV_len,IntWalk.wrap64_in _ ⟨by omega,by have:=HCL.out;omega⟩]
   rfl
  rw [negV_len]at hwr
  have HWR2:=zH hwr
  clear hwr
  rw [negV_len]
  show GpWalk _ _ _ _ _ _ (Act.put _ (some 45) (.int .i64 (c:Int))) _
  go_simp
  (refine gp_rd ?_;(try simp only [opsOf,List.map_cons,List.map_nil,List.getD_cons_zero,List.getD_cons_succ]);(repeat (go_big_quiet_step (fail)));refine wpQuiet_nil ?_)
  (refine gp_tl ?_;(try simp only [opsOf,List.map_cons,List.map_nil,List.getD_cons_zero,List.getD_cons_succ]))
  go_wp2_with fail
  rw [HWR2.out]
  go_roundw
  case rel=>exact ⟨k+c,HCL.out,fun _=>by have:=HCP.out;omega,rfl,HX5,HO5⟩
  case measure=>have:=HCL.out;have:=HCP.out;simp [intOf];omega
def partK (n:Nat) (o p:List Nat) (k:Nat):List Int:=(List.range n).map fun (x:Nat)=>if 0≤placeZ (ordZ o) x∧placeZ (ordZ o) x < k then ((p.getD (placeZ (ordZ o) x).toNat 0:Nat):Int)else -1
theorem partK_len {n k:Nat} {o p:List Nat}:(partK n o p k).length=n:=by simp [partK]
theorem partK_zero {n:Nat} {o p:List Nat}:partK n o p 0=List.replicate n (-1):=by
 refine List.ext_getElem (by simp [partK]) fun i h1 h2=> ?_
 simp only [partK,List.getElem_map,List.getElem_range,List.getElem_replicate]
 rw [if_neg (by omega)]
theorem partK_all {n:Nat} {o p:List Nat}:partK n o p o.length=partP n o p:=by
 refine List.ext_getElem (by simp [partK,partP]) fun i h1 h2=> ?_
 simp only [partK,partP,List.getElem_map,List.getElem_range]
 have:=place_ge (ordZ o) i
 rw [ordZ_len]at this
 by_cases h:placeZ (ordZ o) i < 0
 ·rw [if_neg (by omega),if_pos h]
 ·rw [if_pos (by omega),if_neg h]
theorem partK_step {n k:Nat} {o p:List Nat} (hd:o.Nodup) (hk:k < o.length):(partK n o p k).set (o.getD k 0) ((p.getD k 0:Nat):Int)=partK n o p (k+1):=by
 refine List.ext_getElem (by simp [partK]) fun i h1 h2=> ?_
 rw [List.getElem_set]
 simp only [partK,List.getElem_map,List.getElem_range]
 by_cases he:o.getD k 0=i
 ·rw [if_pos he]
  obtain ⟨j,hj,e1,e2⟩:=ord_place hd (x:=(i:Int)) (by omega) (by rw [Int.toNat_natCast,←he];exact getD_mem' hk)
  rw [Int.toNat_natCast]at e2
  have:j=k:=nodup_inj hd hj hk (by rw [e2,he])
  subst this
  rw [e1,if_pos (by omega),Int.toNat_natCast]
 ·rw [if_neg he]
  have:placeZ (ordZ o) i≠k:=by
   rcases place_cases (ordZ o) (i:Int)with ⟨e,_⟩ | ⟨j,hj,e,e2,_⟩
   ·omega
   ·intro e3
    have:j=k:=by omega
    subst this
    rw [ordZ_len]at hj
    rw [ordZ_get hj]at e2
    omega
  by_cases h:0≤placeZ (ordZ o) i∧placeZ (ordZ o) i < k
  ·rw [if_pos h,if_pos (by omega)]
  ·rw [if_neg h,if_neg (by omega)]
theorem match_any (A B:GraphD) (V:World) (hA:GraphAt V A) (hB:GraphAt V B) (oA:GOk A) (oB:GOk B):
  Calls Tryz.prog 21 #[.agg #[.slice A.nA A.ns.length A.ncap,.slice A.rA A.rs.length A.rcap],.agg #[.slice B.nA B.ns.length B.ncap,.slice B.rA B.rs.length B.rcap]] V (RetMt V A B):=by
 have hx0:=((Ext.refl V).alloc (.cells #[.slice A.nA A.ns.length A.ncap,.slice A.rA A.rs.length A.rcap] 27)).alloc (.cells #[.slice B.nA B.ns.length B.ncap,.slice B.rA B.rs.length B.rcap] 27)
 have hba:=(pers_new V #[.slice A.nA A.ns.length A.ncap,.slice A.rA A.rs.length A.rcap] 27 _ rfl).re ((Ext.refl _).alloc (.cells #[.slice B.nA B.ns.length B.ncap,.slice B.rA B.rs.length B.rcap] 27))
 have hbb:=pers_new (V.alloc (.cells #[.slice A.nA A.ns.length A.ncap,.slice A.rA A.rs.length A.rcap] 27)) #[.slice B.nA B.ns.length B.ncap,.slice B.rA B.rs.length B.rcap] 27 (V.heap.size+1) (by simp)
 have HX:=zH hx0
 have HA:=zH (hA.ext hx0)
 have HB:=zH (hB.ext hx0)
 have HBA:=zH hba
 have HBB:=zH hbb
 have HOA:=zH oA
 have HOB:=zH oB
 have ka:=(cells_of hba.here).1
 have kb:=(cells_of hbb.here).1
 clear hx0 hA hB oA oB hba hbb
 cases hal:alikeG A B with
 | false=>
  have HN:=zH hal
  clear hal
  go_enter Tryz.func21,Tryz.ntmps21
  go_wp2_with fail
  refine (alike_is A B false HN.out _ HA.out HB.out HOA.out HOB.out).mono ?_
  rintro e w1 ⟨rfl,hx⟩
  replace HX:=zH (HX.out.trans hx)
  clear hx ka kb
  go_wp2_with fail
  go_returns
  exact retMt_none HN.out HX.out
 | true=>
 have HN:=zH hal
 obtain ⟨ra,rb, -, -⟩:=alikeG_iff.1 hal
 have HLL:=zH ((match_alike HOA.out HOB.out ra rb).2 hal).2
 have HO:=zH (ordOk_of HOA.out ra)
 have HP:=zH (ordOk_of HOB.out rb)
 have hn60:A.ns.length≤1000:=by have:=HOA.out.2.1;omega
 have hol:(ordG A).length≤1000:=by have:=ordG_len HOA.out ra;omega
 have HFA:Hid (∀W,GraphAt W A→Calls Tryz.prog 66 #[.agg #[.slice A.nA A.ns.length A.ncap,.slice A.rA A.rs.length A.rcap]] W (RetFl W (ordZ (ordG A)) 0)):=zH (fun W h=>breadth_is A _ 0 (by rw [(plan_great HOA.out 0).2.1,(flat_eq A).2,flatG,ra];rfl) (by rw [(plan_great HOA.out 0).1,(flat_eq A).1,canE,ra];rfl) W h HOA.out)
 have HFB:Hid (∀W,GraphAt W B→Calls Tryz.prog 66 #[.agg #[.slice B.nA B.ns.length B.ncap,.slice B.rA B.rs.length B.rcap]] W (RetFl W (ordZ (ordG B)) 0)):=zH (fun W h=>breadth_is B _ 0 (by rw [(plan_great HOB.out 0).2.1,(flat_eq B).2,flatG,rb];rfl) (by rw [(plan_great HOB.out 0).1,(flat_eq B).1,canE,rb];rfl) W h HOB.out)
 have HLT:Hid (∀k,k < (ordG A).length→(ordG A).getD k 0 < A.ns.length):=zH (fun k hk=>valN_mem (HO.out.lt _ (getD_mem' hk)))
 have HMT:Hid (mtS A B=partP A.ns.length (ordG A) (ordG B)):=zH (by rw [mtS,if_pos hal])
 unfold RetMt
 rw [hal,HMT.out,partP_len]
 clear hal ra rb
 generalize ordG A=o at*
 generalize ordG B=p at*
 go_enter Tryz.func21,Tryz.ntmps21
 go_wp2_with fail
 refine (alike_is A B true HN.out _ HA.out HB.out HOA.out HOB.out).mono ?_
 rintro e w1 ⟨rfl,hx⟩
 replace HX:=zH (HX.out.trans hx)
 replace HA:=zH (HA.out.ext hx)
 replace HB:=zH (HB.out.ext hx)
 replace HBA:=zH (HBA.out.re hx)
 replace HBB:=zH (HBB.out.re hx)
 have ka:=(cells_of HBA.out.here).1
 have hla:=lt_of_heap HBA.out.here
 have HXV:Hid (V.heap.size≤w1.heap.size):=zH HX.out.size
 clear hx kb
 go_wp2_with fail
 clear ka hla
 refine (repeat_any A.ns.length (by omega) w1.heap.size _ ((cells_of (blk_new w1 #[.int .i64 (-1)] 3 _ rfl)).1 0)).mono ?_
 rintro e w2 ⟨g,rfl,ho,hx⟩
 replace hx:=((Ext.refl w1).alloc (.cells #[.int .i64 (-1)] 3)).trans hx
 replace ho:=ho.mono (B':=w1.heap.size) (by simp)
 replace HX:=zH (HX.out.trans hx)
 replace HA:=zH (HA.out.ext hx)
 replace HB:=zH (HB.out.ext hx)
 replace HBA:=zH (HBA.out.re hx)
 replace HBB:=zH (HBB.out.re hx)
 have HO2:=zH (ho.mono (B':=V.heap.size) HXV.out)
 have HG2:Hid (g < w2.heap.size):=zH (own_below ho rfl).2
 have ka:=(cells_of HBA.out.here).1
 clear hx ho
 go_wp2_with fail
 clear ka
 refine (HFA.out _ HA.out).mono ?_
 rintro e w3 ⟨A1,c1,rfl,h1,hx⟩
 replace HX:=zH (HX.out.trans hx)
 replace HB:=zH (HB.out.ext hx)
 replace HBB:=zH (HBB.out.re hx)
 replace HO2:=zH (HO2.out.ext hx)
 have I1:=zH h1
 have HG3:Hid (g < w3.heap.size):=zH (by have:=HG2.out;have:=hx.size;omega)
 have kb:=(cells_of HBB.out.here).1
 clear hx h1
 go_wp2_with fail
 clear kb
 refine (HFB.out _ HB.out).mono ?_
 rintro e w4 ⟨A2,c2,rfl,h2,hx⟩
 replace HX:=zH (HX.out.trans hx)
 replace HO2:=zH (HO2.out.ext hx)
 replace I1:=zH (I1.out.ext hx)
 have I2:=zH h2
 have HPZ:Hid (Own 3 1 intC w4 V.heap.size (.slice (some ⟨g,0,none⟩) A.ns.length A.ns.length) (partK A.ns.length o p 0)):=zH (by rw [partK_zero];exact HO2.out)
 have HOZ:Hid ((ordZ o).length=o.length∧(ordZ p).length=o.length):=zH ⟨ordZ_len,by rw [ordZ_len];exact HLL.out.symm⟩
 rw [HOZ.out.1]at I1⊢
 rw [HOZ.out.2]at I2⊢
 have HXZ:=zH (Ext.refl V)
 clear hx h2 HO2 HB HA HBB HBA
 go_wp2_with fail
 go_loopw [34] (fun i wr=>∃k:Nat,k≤o.length∧i= .int .i64 k∧Hid (Ext V wr)∧Hid (Own 3 1 intC wr w2.heap.size (.slice A1 o.length c1) (ordZ o))∧Hid (Own 3 1 intC wr w3.heap.size (.slice A2 o.length c2) (ordZ p))∧Hid (Own 3 1 intC wr V.heap.size (.slice (some ⟨g,0,none⟩) A.ns.length A.ns.length) (partK A.ns.length o p k))) (fun i _=>o.length - (intOf i).toNat)
 case atStart=>exact ⟨0,by omega,rfl,HX,I1,I2,HPZ⟩
 case round=>
  obtain ⟨k,hk,rfl,hxk,hI1,hI2,hO⟩:=hrel
  clear HPZ I1 I2 HX
  by_cases hlt:k < o.length
  rotate_left
  ·obtain rfl:k=o.length:=by omega
   clear hlt
   go_wp2_with fail
   go_returns
   refine ⟨some ⟨g,0,none⟩,A.ns.length,rfl,?_,hxk.out⟩
   rw [←partK_all]
   exact hO.out
  have hlt2:k < p.length:=by have:=HLL.out;omega
  have hm:=HLT.out k hlt
  have HS:=zH (partK_step (n:=A.ns.length) (p:=p) HO.out.nd hlt)
  obtain ⟨b1,rfl,hb1, -⟩:=own_some hI1.out (fun e=>by have e2:o.length=0:=by {rw [←ordZ_len,e];rfl};omega)
  obtain ⟨b2,rfl,hb2, -⟩:=own_some hI2.out (fun e=>by have e2:p.length=0:=by {rw [←ordZ_len,e];rfl};omega)
  have n1:(Value.slice (some ⟨b1,0,none⟩) o.length c1).ownBlock≠some g:=fun e=>by
   have e2:b1=g:=by simpa [Value.ownBlock]using e
   have:=HG2.out
   omega
  have n2:(Value.slice (some ⟨b2,0,none⟩) o.length c2).ownBlock≠some g:=fun e=>by
   have e2:b2=g:=by simpa [Value.ownBlock]using e
   have:=HG3.out
   omega
  have d1:=own_intAt hI1.out ordZ_len hlt
  have d2:=own_intAt hI2.out (by rw [ordZ_len];exact HLL.out.symm) hlt
  rw [ordZ_get hlt]at d1
  rw [ordZ_get hlt2]at d2
  have d3:=own_intAt hO.out partK_len hm
  obtain ⟨cur,hh⟩:=own_heap hO.out
  have fz:=(cells_of hh).2
  have hS:=own_setI hO.out partK_len (o.getD k 0) ((p.getD k 0:Nat):Int)
  rw [HS.out]at hS
  have HS2:=zH hS
  have HJ1:=zH (hI1.out.setNe (i:=o.getD k 0) (u:= .int .i64 ((p.getD k 0:Nat):Int)) n1)
  have HJ2:=zH (hI2.out.setNe (i:=o.getD k 0) (u:= .int .i64 ((p.getD k 0:Nat):Int)) n2)
  have HX2:=zH (hxk.out.setCell (p:=⟨g,o.getD k 0,none⟩) (own_below hO.out rfl).1 (.int .i64 ((p.getD k 0:Nat):Int)))
  have ib0:(0:Int)≤(k:Int):=by omega
  have ib1:(k:Int) < (o.length:Int):=by omega
  have ib2:(0:Int)≤((o.getD k 0:Nat):Int):=by omega
  have ib3:((o.getD k 0:Nat):Int) < (A.ns.length:Int):=by omega
  clear hS hh hO hxk hI1 hI2 n1 n2 hm HS hb1 hb2
  generalize o.getD k 0=m at*
  generalize p.getD k 0=q at*
  go_wp2_with fail
  go_roundw
  case rel=>exact ⟨k+1,by omega,by go_num,HX2,HJ1,HJ2,HS2⟩
  case measure=>simp [intOf];omega
end Go.Proofs.YtphpppjfogpohaaGreat
