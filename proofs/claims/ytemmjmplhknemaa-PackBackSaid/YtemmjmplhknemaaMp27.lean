/- Merged by program (merge.py) out of: StI, StJ, StK, StL, StM, StN, StO, StP, StR. -/
import Derived.Test.YtemmjmplhknemaaMp26
import Derived.Test.YtemmjmplhknemaaMp4
import Derived.Test.YtemmjmplhknemaaMp14
import Derived.Test.YtemmjmplhknemaaMp7
set_option linter.unusedSimpArgs false
set_option linter.unusedVariables false
set_option maxRecDepth 100000
set_option maxHeartbeats 16000000
namespace Go.Proofs.Ytemmjmplhknemaa
open Go.RowKit Go.Shelf
def largeO (l:Option (List Int)) (c0 c1 c2 c3:Int) (x:Int×Int):Bool:=decide (headE l x.1=0) && (hsize (headH l x.1)==x.2) && quietB (headH l x.1) && !smallB c0 c1 c2 c3 x.2
theorem ledright_is (a s:Int) (A A2:Option Addr) (cap cap2:Nat) (xs fs:List (Int×Int)) (b:Bool) (h:ledR a s xs fs=b) (w:World) (hlen:xs.length≤400000) (hlen2:fs.length≤9223372036854775807) (hl:SpansAt w A xs) (hl2:SpansAt w A2 fs):
  Calls Try.prog 57 #[.agg #[.int .i64 (a),.int .i64 (s)],.slice A xs.length cap,.slice A2 fs.length cap2] w fun e w'=>e= .returned (.bool b)∧Ext w w':=by
 rw [←h];exact ledright_any a s A A2 cap cap2 xs fs w hlen hlen2 hl hl2
section
variable {c0 c1 c2 c3 : Int} {sn : Bool} {wA : Option Addr} {ws : List Int} {wc : Nat} {top : Int} {tA : Option Addr} {tb : List (Int × Int)} {tc : Nat} {fA : Option Addr} {fr : List (Int × Int)} {fc : Nat} {sA : Option Addr} {sl : List (Bool × Int × Int)} {sc : Nat}
variable {V W : World} {L c mb n : Nat} {A1 : Option Addr} {cap1 : Nat} {wv : List Int} {A2 : Option Addr} {cap2 : Nat} {zs : List Int} {S : Int → Bool}
def RetLgs (V W:World) (L:Nat) (cs:Array Value) (c mb n:Nat) (A1:Option Addr) (cap1:Nat) (wv:List Int) (A2:Option Addr) (cap2:Nat) (zs:List Int) (S:Int→Bool) (r:Bool) (e:Ending) (w':World):Prop:=
 e= .returned (.bool r)∧∃n' S',LkW V w' L cs c mb n' A1 cap1 wv A2 cap2 zs S'∧n'≤n∧(r=true→S'=S)∧Kc L W w'
theorem stlarges_any (hLk:LkW V W L #[.int .i64 c0,.int .i64 c1,.int .i64 c2,.int .i64 c3,.bool sn,.slice wA ws.length wc,.int .i64 top,.slice tA tb.length tc,.slice fA fr.length fc,.slice sA sl.length sc] c mb n A1 cap1 wv A2 cap2 zs S) (hmb:V.heap.size≤mb) (hn:n≤2199023255553) (HT:Pers V (fun w=>SpansAt w tA tb)) (HF:Pers V (fun w=>SpansAt w fA fr)) (htl:tb.length≤98304) (hfl:fr.length≤98304)
  (htb:∀x∈tb,(-9223372036854775808≤x.1∧x.1≤9223372036854775807)):
  Calls Try.prog 46 #[.pointer (some ⟨L,0,none⟩)] W (RetLgs V W L #[.int .i64 c0,.int .i64 c1,.int .i64 c2,.int .i64 c3,.bool sn,.slice wA ws.length wc,.int .i64 top,.slice tA tb.length tc,.slice fA fr.length fc,.slice sA sl.length sc] c mb (n+tb.length) A1 cap1 wv A2 cap2 zs (fun x=>S x || decide (x∈tb.map (·.1))) (ledR (largeA c0 c1 c2 c3) (largeS c0 c1 c2 c3) tb fr && tb.all (largeO (some wv) c0 c1 c2 c3))):=by
 obtain ⟨a,ha⟩:∃b,largeA c0 c1 c2 c3=b:=⟨_,rfl⟩
 obtain ⟨s,hs⟩:∃b,largeS c0 c1 c2 c3=b:=⟨_,rfl⟩
 obtain ⟨b,hb⟩:∃b,ledR a s tb fr=b:=⟨_,rfl⟩
 have HA:=zH ha
 have HS:=zH hs
 have HLB:=zH hb
 rw [ha,hs,hb]
 have HLK:=hLk.pers
 have HTB:=zH htb
 have HTW:=HT.re hLk.ext
 have HFW:=HF.re hLk.ext
 have hB:Pers W (fun w=>w.heap[L]?=some (.cells #[.int .i64 c0,.int .i64 c1,.int .i64 c2,.int .i64 c3,.bool sn,.slice wA ws.length wc,.int .i64 top,.slice tA tb.length tc,.slice fA fr.length fc,.slice sA sl.length sc,.pointer (some ⟨c,0,none⟩),.slice A2 zs.length cap2,.map (some mb)] 86 (0,0))):=fun w k=>(hLk.grow k).blk
 have g:=hB.cells
 clear ha hs hb hLk htb
 refine at_baseC (W:=W) fun uq=> ?_
 go_enter Try.func46,Try.ntmps46
 go_wp2_with fail
 have hu:=uq.2
 (refine wp_region_ext (W:=W) (by kernel_rfl) (by kernel_rfl) (by with_reducible assumption) ?_;(repeat (go_big_quiet_step (first | (go_at_call 26;with_reducible exact Calls.ext_of (llarge_is HA.out HS.out _)) | (go_at_call 57;with_reducible exact Calls.ext_of (ledright_is a s tA fA tc fc tb fr b HLB.out _ (by omega) (by omega) (HTW.at zE) (HFW.at zE))))));refine wpQuiet_nil ?_;intro w1 hx)
 clear hu
 cases b
 ·(obtain ⟨uq,rfl⟩:∃u:ExtOf W,w1=u.1:=⟨⟨w1,hx⟩,rfl⟩;clear hx;go_wp2_with fail)
  go_ret
  exact ⟨rfl,n,S,HLK.at uq.2,by omega,by simp,Kc.ext L uq.2⟩
 (obtain ⟨uq,rfl⟩:∃u:ExtOf W,w1=u.1:=⟨⟨w1,hx⟩,rfl⟩;clear hx;go_wp2_with fail)
 have HL0:=zH (HLK.at uq.2)
 have HK0:=zH (Kc.ext L uq.2)
 clear g hB HLK HTW HFW
 simp only [Bool.not_true]
 go_loopw [4,5,6,31] (fun _ _ _ i wr=>∃k:Nat,k≤tb.length∧i= .int .i64 k∧Hid (LkW V wr L #[.int .i64 c0,.int .i64 c1,.int .i64 c2,.int .i64 c3,.bool sn,.slice wA ws.length wc,.int .i64 top,.slice tA tb.length tc,.slice fA fr.length fc,.slice sA sl.length sc] c mb (n+k) A1 cap1 wv A2 cap2 zs (fun x=>S x || decide (x∈(tb.take k).map (·.1))))∧Hid (Kc L W wr)∧Hid (∀i,i < k→largeO (some wv) c0 c1 c2 c3 (tb.getD i (0,0))=true)) (fun _ _ _ i _=>tb.length - (intOf i).toNat)
 case atStart=>exact ⟨0,by omega,rfl,zH (by simpa using HL0.out),HK0,zH (by omega)⟩
 case round=>
  obtain ⟨k,hk,rfl,HL,HKR,hq⟩:=hrel
  clear HL0 HK0
  by_cases hlt:k < tb.length
  rotate_left
  ·obtain rfl:k=tb.length:=by omega
   have HAL:Hid (tb.all (largeO (some wv) c0 c1 c2 c3)=true):=zH (all_ofD fun i hi=>hq.out i hi)
   clear hq
   go_wp2_with fail
   go_ret
   exact ⟨ret_bool (by rw [HAL.out];rfl),_,_,HL.out,Nat.le_refl _,(fun _=>by simp only [List.take_length]),HKR.out⟩
  have HLK:=HL.out.pers
  have hB:Pers wr (fun w=>w.heap[L]?=some (.cells #[.int .i64 c0,.int .i64 c1,.int .i64 c2,.int .i64 c3,.bool sn,.slice wA ws.length wc,.int .i64 top,.slice tA tb.length tc,.slice fA fr.length fc,.slice sA sl.length sc,.pointer (some ⟨c,0,none⟩),.slice A2 zs.length cap2,.map (some mb)] 86 (0,0))):=fun w k=>(HL.out.grow k).blk
  have HAR:Pers wr (fun w=>ArP w (some ⟨c,0,none⟩) (some wv)):=fun w k=>(HL.out.grow k).ar.p
  obtain ⟨lb,off,rfl,hc⟩:=(HT.at HL.out.ext).get (by omega)
  obtain ⟨j1,j2⟩:=spans_cell hc hlt
  have hxb:=HTB.out _ (getD_mem (d:=(0,0)) hlt)
  have ib1:(k:Int) < (tb.length:Int):=by omega
  have HY:=zH (fun (h:largeO (some wv) c0 c1 c2 c3 (tb.getD k (0,0))=true)=>upTo hq.out h)
  have HNO:=zH (fun (h:largeO (some wv) c0 c1 c2 c3 (tb.getD k (0,0))=false)=>all_notD (p:=largeO (some wv) c0 c1 c2 c3) hlt h)
  have HTK:Hid ((fun x=>(S x || decide (x∈(tb.take k).map (·.1))) || x==(tb.getD k (0,0)).1)=fun x=>S x || decide (x∈(tb.take (k+1)).map (·.1))):=zH (by
   funext x
   rw [map_snoc (d:=(0,0)) hlt,Bool.or_assoc]
   congr 1
   simp only [List.mem_append,List.mem_singleton,Bool.decide_or]
   congr 1)
  clear hc hq
  generalize tb.getD k (0,0)=x at*
  obtain ⟨xa,xs⟩:=x
  simp only at j1 j2 hxb HTK
  obtain ⟨er,her⟩:∃e,headE (some wv) xa=e:=⟨_,rfl⟩
  obtain ⟨h,hh⟩:∃h,headH (some wv) xa=h:=⟨_,rfl⟩
  obtain ⟨z,hz⟩:∃n,hsize h=n:=⟨_,rfl⟩
  obtain ⟨b,hb⟩:∃b,quietB h=b:=⟨_,rfl⟩
  obtain ⟨d,hd⟩:∃b,smallB c0 c1 c2 c3 xs=b:=⟨_,rfl⟩
  have HLG:Hid (largeO (some wv) c0 c1 c2 c3 (xa,xs)=(decide (er=0) && (z==xs) && b && !d)):=zH (by simp only [largeO,her,hh,hz,hb,hd])
  have HER:=zH her
  have HH:=zH hh
  have HZ:=zH hz
  have HB:=zH hb
  have HD:=zH hd
  clear her hh hz hb hd
  have hS:=pers_new wr #[.int .i64 xa,.int .i64 xs] 62 _ rfl
  have hxs:=(Ext.refl wr).alloc (.cells #[.int .i64 xa,.int .i64 xs] 62)
  go_wp2_with fail
  (replace HLK:=HLK.re hxs;replace hB:=hB.re hxs;replace HAR:=HAR.re hxs)
  have HK1:=zH (Kc.ext L hxs)
  generalize wr.alloc (.cells #[.int .i64 xa,.int .i64 xs] 62)=W1 at*
  generalize wr.heap.size=X at*
  have g:=hB.cells
  have g1:=hS.cells
  have hx1:=Ext.refl W1
  clear j1 j2 ib1 hxs HL
  (refine wp_region_pfk (W:=W1) [(0,true),(1,true),(2,true),(3,true),(4,true),(5,true)] 5 [(6,[.qu 7 true,.qu 8 true,.qu 9 true,.one 10,.one 11]),(10,[.one 6,.qu 7 true,.qu 8 true,.qu 9 true,.one 11])] [12] (by kernel_rfl) (by kernel_rfl) (by intro c a d v w h;cases d <;>first | exact h | (cases h;done) | cases h.1.1 | cases h.1) (by with_reducible assumption) ?_;simp only [opsOf,List.map_cons,List.map_nil,List.getD_cons_zero,List.getD_cons_succ];(repeat (go_big_quiet_step (fail)));refine wpQuiet_nil ?_;refine all_two ?_ ?_ <;>(intro w1 hx;unfold RowP;simp only [opsOf,List.map_cons,List.map_nil,List.getD_cons_zero,List.getD_cons_succ]))
  ·(refine pln_one (by (try simp only [List.getD_cons_succ,List.getD_cons_zero]);rfl) (by rfl) ?_;intro K hK;go_simp)
   refine (ohead_is (some ⟨c,0,none⟩) (some wv) xa h er HH.out HER.out _ (HAR.at hx) hxb).mono ?_
   rintro e w2 ⟨rfl,hx2⟩
   refine hK (Ext W1) _ _ (fun _ h=>h) (hx.trans hx2) ?_
   clear hK K hx hx2
   (refine pln_qu (by (try simp only [List.getD_cons_succ,List.getD_cons_zero]);rfl) ?_;(repeat (go_big_quiet_step (fail)));refine wpQuiet_nil ?_;intro w1 hx)
   (refine pln_qu (by (try simp only [List.getD_cons_succ,List.getD_cons_zero]);rfl) ?_;(repeat (go_big_quiet_step (fail)));refine wpQuiet_nil ?_;intro w1 hx)
   (refine pln_qu (by (try simp only [List.getD_cons_succ,List.getD_cons_zero]);rfl) ?_;(repeat (go_big_quiet_step (fail)));refine wpQuiet_nil ?_;intro w1 hx)
   (refine pln_one (by (try simp only [List.getD_cons_succ,List.getD_cons_zero]);rfl) (by rfl) ?_;intro K hK;go_simp)
   refine hK (Ext W1) _ _ (fun _ h=>h) (hx.alloc _) ?_
   clear hK K
   (refine pln_one (by (try simp only [List.getD_cons_succ,List.getD_cons_zero]);rfl) (by rfl) ?_;intro K hK;go_simp)
   refine hK (Ext W1) _ _ (fun _ h=>h) (hx.alloc _) ?_
   clear hK K
   (refine pln_nil ?_)
   go_wp2_with fail
   have HBH:=pers_new w1 #[.int .i64 h.k,.int .i64 h.f,.int .i64 h.r,.bool h.m,.int .i64 h.c] 99 _ rfl
   have HX5:=zH (hx.alloc (.cells #[.int .i64 h.k,.int .i64 h.f,.int .i64 h.r,.bool h.m,.int .i64 h.c] 99))
   clear hx
   generalize w1.alloc (.cells #[.int .i64 h.k,.int .i64 h.f,.int .i64 h.r,.bool h.m,.int .i64 h.c] 99)=W5 at*
   generalize w1.heap.size=Y at*
   clear g g1 hx1
   have HK7:=zH (HKR.out.trans (HK1.out.trans (Kc.ext L HX5.out)))
   replace HLK:=HLK.re HX5.out
   replace hB:=hB.re HX5.out
   replace hS:=hS.re HX5.out
   have g:=hB.cells
   have g1:=hS.cells
   have g2:=HBH.cells
   have hx5:=Ext.refl W5
   by_cases h0:er=0
   rotate_left
   ·have q0:(er !=0)=true:=by rw [bne_iff_ne];exact h0
    have HR:=zH (HNO.out (by rw [HLG.out,decide_eq_false h0];rfl))
    clear h0
    (refine wp_region_ext (W:=W5) (by kernel_rfl) (by kernel_rfl) (by with_reducible assumption) ?_;(repeat (go_big_quiet_step (fail)));refine wpQuiet_nil ?_;intro w1 hx)
    (obtain ⟨uq,rfl⟩:∃u:ExtOf W5,w1=u.1:=⟨⟨w1,hx⟩,rfl⟩;clear hx;go_wp2_with fail)
    go_ret
    exact ⟨ret_bool (by simp [HR.out]),_,_,HLK.at uq.2,by omega,by rw [HR.out];simp,HK7.out.trans (Kc.ext L uq.2)⟩
   subst h0
   by_cases h1:z=xs
   rotate_left
   ·have q1:(z !=xs)=true:=by rw [bne_iff_ne];exact h1
    have q2:(z==xs)=false:=by rw [beq_eq_false_iff_ne];exact h1
    have HR:=zH (HNO.out (by rw [HLG.out,q2];rfl))
    clear h1 q2
    (refine wp_region_ext (W:=W5) (by kernel_rfl) (by kernel_rfl) (by with_reducible assumption) ?_;(repeat (go_big_quiet_step (first | (go_at_call 56;with_reducible exact Calls.ext_of (hsize_is h z HZ.out _)))));refine wpQuiet_nil ?_;intro w1 hx)
    (obtain ⟨uq,rfl⟩:∃u:ExtOf W5,w1=u.1:=⟨⟨w1,hx⟩,rfl⟩;clear hx;go_wp2_with fail)
    go_ret
    exact ⟨ret_bool (by simp [HR.out]),_,_,HLK.at uq.2,by omega,by rw [HR.out];simp,HK7.out.trans (Kc.ext L uq.2)⟩
   subst h1
   have q1:(z !=z)=false:=by simp
   cases b
   ·have HR:=zH (HNO.out (by rw [HLG.out];simp))
    (refine wp_region_ext (W:=W5) (by kernel_rfl) (by kernel_rfl) (by with_reducible assumption) ?_;(repeat (go_big_quiet_step (first | (go_at_call 56;with_reducible exact Calls.ext_of (hsize_is h z HZ.out _)) | (go_at_call 54;with_reducible exact Calls.ext_of (quiet_is h false HB.out _)))));refine wpQuiet_nil ?_;intro w1 hx)
    (obtain ⟨uq,rfl⟩:∃u:ExtOf W5,w1=u.1:=⟨⟨w1,hx⟩,rfl⟩;clear hx;go_wp2_with fail)
    go_ret
    exact ⟨ret_bool (by simp [HR.out]),_,_,HLK.at uq.2,by omega,by rw [HR.out];simp,HK7.out.trans (Kc.ext L uq.2)⟩
   cases d
   rotate_left
   ·have HR:=zH (HNO.out (by rw [HLG.out];simp))
    (refine wp_region_ext (W:=W5) (by kernel_rfl) (by kernel_rfl) (by with_reducible assumption) ?_;(repeat (go_big_quiet_step (first | (go_at_call 56;with_reducible exact Calls.ext_of (hsize_is h z HZ.out _)) | (go_at_call 54;with_reducible exact Calls.ext_of (quiet_is h true HB.out _)) | (go_at_call 55;with_reducible exact Calls.ext_of (lsmall_is HD.out _)))));refine wpQuiet_nil ?_;intro w1 hx)
    (obtain ⟨uq,rfl⟩:∃u:ExtOf W5,w1=u.1:=⟨⟨w1,hx⟩,rfl⟩;clear hx;go_wp2_with fail)
    go_ret
    exact ⟨ret_bool (by simp [HR.out]),_,_,HLK.at uq.2,by omega,by rw [HR.out];simp,HK7.out.trans (Kc.ext L uq.2)⟩
   have HYY:=zH (HY.out (by rw [HLG.out];simp))
   (refine wp_region_ext (W:=W5) (by kernel_rfl) (by kernel_rfl) (by with_reducible assumption) ?_;(repeat (go_big_quiet_step (first | (go_at_call 56;with_reducible exact Calls.ext_of (hsize_is h z HZ.out _)) | (go_at_call 54;with_reducible exact Calls.ext_of (quiet_is h true HB.out _)) | (go_at_call 55;with_reducible exact Calls.ext_of (lsmall_is HD.out _)))));refine wpQuiet_nil ?_;intro w1 hx)
   (obtain ⟨uq,rfl⟩:∃u:ExtOf W5,w1=u.1:=⟨⟨w1,hx⟩,rfl⟩;clear hx;go_wp2_with fail)
   have hu:=uq.2
   (refine wp_region_ord (W:=W5) [(0,true),(1,true),(2,true),(3,true),(4,true),(5,true)] [] [6] (by kernel_rfl) (by kernel_rfl) (by intro c a d v w h;cases d <;>first | exact h | (cases h;done) | cases h.1.1 | cases h.1) (by with_reducible assumption) ?_;simp only [opsOf,List.map_cons,List.map_nil,List.getD_cons_zero,List.getD_cons_succ];(repeat (go_big_quiet_step (fail)));refine wpQuiet_nil ?_;intro w1 hx;refine mid_nil ?_)
   have HL6:=zH (HLK.at hx)
   have HX6:=zH hx
   have hzw:(Lit.int .i64 xa).wf=true:=by simp [Lit.wf,IntKind.min,IntKind.max,IntKind.signed,IntKind.bits];omega
   have HZW:=zH hzw
   clear hzw hx hu g g1 g2
   go_wp2_with (at_mapUpdate;refine wpList_set_put rfl (.tmp 72) (.tmp 74) (.const (.bool true)) rfl HL6.out.st rfl (by simp [maxLen];omega) xa rfl rfl HZW.out ?_;intro w7 hs7 hg7;have HL7:=zH (HL6.out.put hmb hg7 hs7);have HK8:=zH ((HK7.out.trans (Kc.ext L HX6.out)).trans (Kc.map L HL6.out.st hg7));clear hs7 hg7)
   go_roundw
   case rel=>exact ⟨k+1,by omega,by go_num,by rw [←HTK.out];exact HL7,HK8,HYY⟩
   case measure=>simp [intOf];omega
  ·(refine pln_one (by (try simp only [List.getD_cons_succ,List.getD_cons_zero]);rfl) (by rfl) ?_;intro K hK;go_simp)
   refine hK (fun w=>Ext W1 w∧∃cs,cs.size=5∧w.heap[w1.heap.size]?=some (.cells cs 99 (0,0))) _ _ (fun _ h=>h.1) ⟨hx.alloc _,_,rfl,World.alloc_heap_new _ _⟩ ?_
   clear hK K
   have hb:=blk_new w1 #[.int .i64 0,.int .i64 0,.int .i64 0,.bool false,.int .i64 0] 99 _ rfl
   have hx1':=hx.alloc (.cells #[.int .i64 0,.int .i64 0,.int .i64 0,.bool false,.int .i64 0] 99)
   have hXs:W1.heap.size≤w1.heap.size:=hx.size
   generalize w1.alloc (.cells #[.int .i64 0,.int .i64 0,.int .i64 0,.bool false,.int .i64 0] 99)=w3 at*
   generalize w1.heap.size=Y at*
   (refine pln_one (by (try simp only [List.getD_cons_succ,List.getD_cons_zero]);rfl) (by rfl) ?_;intro K hK;go_simp)
   refine (ohead_is (some ⟨c,0,none⟩) (some wv) xa h er HH.out HER.out _ (HAR.at hx1') hxb).mono ?_
   rintro e w2 ⟨rfl,hx2⟩
   refine hK (fun w=>Ext W1 w∧∃cs,cs.size=5∧w.heap[Y]?=some (.cells cs 99 (0,0))) _ _ (fun _ h=>h) ⟨hx1'.trans hx2,_,rfl,(hx2.block (lt_of_heap hb)).trans hb⟩ ?_
   have hne:Nonempty (KeptT fun w=>Ext W1 w∧∃cs,cs.size=5∧w.heap[Y]?=some (.cells cs 99 (0,0))):=⟨⟨_,hx1'.trans hx2,_,rfl,(hx2.block (lt_of_heap hb)).trans hb⟩⟩
   clear hK K hx hx2
   (refine pln_qu (by (try simp only [List.getD_cons_succ,List.getD_cons_zero]);rfl) ?_;(repeat (go_big_quiet_step (fail)));refine wpQuiet_nil ?_;intro w1 hx)
   (refine pln_qu (by (try simp only [List.getD_cons_succ,List.getD_cons_zero]);rfl) ?_;(repeat (go_big_quiet_step (fail)));refine wpQuiet_nil ?_;intro w1 hx)
   (refine pln_qu (by (try simp only [List.getD_cons_succ,List.getD_cons_zero]);rfl) ?_;(repeat (go_big_quiet_step (fail)));refine wpQuiet_nil ?_;intro w1 hx)
   obtain ⟨hx,cs,hcs,hbY⟩:=hx
   obtain ⟨v0,v1,v2,v3,v4,rfl⟩:=arr5 hcs
   obtain ⟨g3,g4⟩:=cells_of hbY
   have hb5:=blk_set (i:=4) (blk_set (i:=3) (blk_set (i:=2) (blk_set (i:=1) (blk_set (i:=0) hbY (.int .i64 h.k)) (.int .i64 h.f)) (.int .i64 h.r)) (.bool h.m)) (.int .i64 h.c)
   have hx5:=((((hx.setCell (p:=⟨Y,0,none⟩) hXs (.int .i64 h.k)).setCell (p:=⟨Y,1,none⟩) hXs (.int .i64 h.f)).setCell (p:=⟨Y,2,none⟩) hXs (.int .i64 h.r)).setCell (p:=⟨Y,3,none⟩) hXs (.bool h.m)).setCell (p:=⟨Y,4,none⟩) hXs (.int .i64 h.c)
   simp only [List.setIfInBounds_toArray,List.set_cons_succ,List.set_cons_zero]at hb5
   (refine pln_one (by (try simp only [List.getD_cons_succ,List.getD_cons_zero]);rfl) (by rfl) ?_;intro K hK;go_simp)
   refine hK _ _ _ (fun _ h=>h) ⟨hx5,_,rfl,hb5⟩ ?_
   have HBH:=pers_blk hb5
   have HX5:=zH hx5
   clear hK K hx hbY g3 g4 hcs hb5 hx5 hne hb hx1'
   (refine pln_nil ?_)
   go_wp2_with fail
   generalize ((((w1.setCell ⟨Y,0,none⟩ (.int .i64 h.k)).setCell ⟨Y,1,none⟩ (.int .i64 h.f)).setCell ⟨Y,2,none⟩ (.int .i64 h.r)).setCell ⟨Y,3,none⟩ (.bool h.m)).setCell ⟨Y,4,none⟩ (.int .i64 h.c)=W5 at*
   clear g g1 hx1
   have HK7:=zH (HKR.out.trans (HK1.out.trans (Kc.ext L HX5.out)))
   replace HLK:=HLK.re HX5.out
   replace hB:=hB.re HX5.out
   replace hS:=hS.re HX5.out
   have g:=hB.cells
   have g1:=hS.cells
   have g2:=HBH.cells
   have hx5:=Ext.refl W5
   by_cases h0:er=0
   rotate_left
   ·have q0:(er !=0)=true:=by rw [bne_iff_ne];exact h0
    have HR:=zH (HNO.out (by rw [HLG.out,decide_eq_false h0];rfl))
    clear h0
    (refine wp_region_ext (W:=W5) (by kernel_rfl) (by kernel_rfl) (by with_reducible assumption) ?_;(repeat (go_big_quiet_step (fail)));refine wpQuiet_nil ?_;intro w1 hx)
    (obtain ⟨uq,rfl⟩:∃u:ExtOf W5,w1=u.1:=⟨⟨w1,hx⟩,rfl⟩;clear hx;go_wp2_with fail)
    go_ret
    exact ⟨ret_bool (by simp [HR.out]),_,_,HLK.at uq.2,by omega,by rw [HR.out];simp,HK7.out.trans (Kc.ext L uq.2)⟩
   subst h0
   by_cases h1:z=xs
   rotate_left
   ·have q1:(z !=xs)=true:=by rw [bne_iff_ne];exact h1
    have q2:(z==xs)=false:=by rw [beq_eq_false_iff_ne];exact h1
    have HR:=zH (HNO.out (by rw [HLG.out,q2];rfl))
    clear h1 q2
    (refine wp_region_ext (W:=W5) (by kernel_rfl) (by kernel_rfl) (by with_reducible assumption) ?_;(repeat (go_big_quiet_step (first | (go_at_call 56;with_reducible exact Calls.ext_of (hsize_is h z HZ.out _)))));refine wpQuiet_nil ?_;intro w1 hx)
    (obtain ⟨uq,rfl⟩:∃u:ExtOf W5,w1=u.1:=⟨⟨w1,hx⟩,rfl⟩;clear hx;go_wp2_with fail)
    go_ret
    exact ⟨ret_bool (by simp [HR.out]),_,_,HLK.at uq.2,by omega,by rw [HR.out];simp,HK7.out.trans (Kc.ext L uq.2)⟩
   subst h1
   have q1:(z !=z)=false:=by simp
   cases b
   ·have HR:=zH (HNO.out (by rw [HLG.out];simp))
    (refine wp_region_ext (W:=W5) (by kernel_rfl) (by kernel_rfl) (by with_reducible assumption) ?_;(repeat (go_big_quiet_step (first | (go_at_call 56;with_reducible exact Calls.ext_of (hsize_is h z HZ.out _)) | (go_at_call 54;with_reducible exact Calls.ext_of (quiet_is h false HB.out _)))));refine wpQuiet_nil ?_;intro w1 hx)
    (obtain ⟨uq,rfl⟩:∃u:ExtOf W5,w1=u.1:=⟨⟨w1,hx⟩,rfl⟩;clear hx;go_wp2_with fail)
    go_ret
    exact ⟨ret_bool (by simp [HR.out]),_,_,HLK.at uq.2,by omega,by rw [HR.out];simp,HK7.out.trans (Kc.ext L uq.2)⟩
   cases d
   rotate_left
   ·have HR:=zH (HNO.out (by rw [HLG.out];simp))
    (refine wp_region_ext (W:=W5) (by kernel_rfl) (by kernel_rfl) (by with_reducible assumption) ?_;(repeat (go_big_quiet_step (first | (go_at_call 56;with_reducible exact Calls.ext_of (hsize_is h z HZ.out _)) | (go_at_call 54;with_reducible exact Calls.ext_of (quiet_is h true HB.out _)) | (go_at_call 55;with_reducible exact Calls.ext_of (lsmall_is HD.out _)))));refine wpQuiet_nil ?_;intro w1 hx)
    (obtain ⟨uq,rfl⟩:∃u:ExtOf W5,w1=u.1:=⟨⟨w1,hx⟩,rfl⟩;clear hx;go_wp2_with fail)
    go_ret
    exact ⟨ret_bool (by simp [HR.out]),_,_,HLK.at uq.2,by omega,by rw [HR.out];simp,HK7.out.trans (Kc.ext L uq.2)⟩
   have HYY:=zH (HY.out (by rw [HLG.out];simp))
   (refine wp_region_ext (W:=W5) (by kernel_rfl) (by kernel_rfl) (by with_reducible assumption) ?_;(repeat (go_big_quiet_step (first | (go_at_call 56;with_reducible exact Calls.ext_of (hsize_is h z HZ.out _)) | (go_at_call 54;with_reducible exact Calls.ext_of (quiet_is h true HB.out _)) | (go_at_call 55;with_reducible exact Calls.ext_of (lsmall_is HD.out _)))));refine wpQuiet_nil ?_;intro w1 hx)
   (obtain ⟨uq,rfl⟩:∃u:ExtOf W5,w1=u.1:=⟨⟨w1,hx⟩,rfl⟩;clear hx;go_wp2_with fail)
   have hu:=uq.2
   (refine wp_region_ord (W:=W5) [(0,true),(1,true),(2,true),(3,true),(4,true),(5,true)] [] [6] (by kernel_rfl) (by kernel_rfl) (by intro c a d v w h;cases d <;>first | exact h | (cases h;done) | cases h.1.1 | cases h.1) (by with_reducible assumption) ?_;simp only [opsOf,List.map_cons,List.map_nil,List.getD_cons_zero,List.getD_cons_succ];(repeat (go_big_quiet_step (fail)));refine wpQuiet_nil ?_;intro w1 hx;refine mid_nil ?_)
   have HL6:=zH (HLK.at hx)
   have HX6:=zH hx
   have hzw:(Lit.int .i64 xa).wf=true:=by simp [Lit.wf,IntKind.min,IntKind.max,IntKind.signed,IntKind.bits];omega
   have HZW:=zH hzw
   clear hzw hx hu g g1 g2
   go_wp2_with (at_mapUpdate;refine wpList_set_put rfl (.tmp 72) (.tmp 74) (.const (.bool true)) rfl HL6.out.st rfl (by simp [maxLen];omega) xa rfl rfl HZW.out ?_;intro w7 hs7 hg7;have HL7:=zH (HL6.out.put hmb hg7 hs7);have HK8:=zH ((HK7.out.trans (Kc.ext L HX6.out)).trans (Kc.map L HL6.out.st hg7));clear hs7 hg7)
   go_roundw
   case rel=>exact ⟨k+1,by omega,by go_num,by rw [←HTK.out];exact HL7,HK8,HYY⟩
   case measure=>simp [intOf];omega
end
def leadsB (S:Int→Bool) (z:Int):Bool:=decide (decE z=0) && (!(decT z==2) || S (decX z))
section
variable {cs : Array Value} {V W : World} {L c mb n : Nat} {A1 : Option Addr} {cap1 : Nat} {wv : List Int} {A2 : Option Addr} {cap2 : Nat} {zs : List Int} {S : Int → Bool}
theorem leads_any (x:Int) (r:Bool) (hr:leadsB S x=r) (g12:∀u:ExtOf W,u.1.cell? ⟨L,12,none⟩=some (.map (some mb))) (HM:Pers W (fun w=>SetI w mb n S)) (hx:0≤x∧x < 18446744073709551616) (w0:World) (hw:Ext W w0):
  Calls Try.prog 60 #[.pointer (some ⟨L,0,none⟩),.int .u64 x] w0 fun e w'=>e= .returned (.bool r)∧Ext w0 w':=by
 revert g12 HM
 intro g12' HM'
 have g12:∀u:ExtOf w0,u.1.cell? ⟨L,12,none⟩=some (.map (some mb)):=fun u=>g12' ⟨u.1,hw.trans u.2⟩
 have HM:=HM'.re hw
 clear g12' HM' hw
 generalize w0=W at*
 obtain ⟨t,ht⟩:∃t,decT x=t:=⟨_,rfl⟩
 obtain ⟨y,hy⟩:∃t,decX x=t:=⟨_,rfl⟩
 obtain ⟨er,her⟩:∃t,decE x=t:=⟨_,rfl⟩
 have hbd:=dec_bd hx.1 hx.2
 rw [ht,hy,her]at hbd
 have HR:Hid (leadsB S x=(decide (er=0) && (!(t==2) || S y))):=zH (by rw [leadsB,ht,hy,her])
 rw [←hr]
 have HT:=zH ht
 have HY:=zH hy
 have HE:=zH her
 have hyw:(Lit.int .i64 y).wf=true:=by simp [Lit.wf,IntKind.min,IntKind.max,IntKind.signed,IntKind.bits];omega
 have hlk:∀u:ExtOf W,(Instr.lookup 84 (.map (some mb)) (.int .i64 y) false).run Try.prog u.1= .ok (.bool (S y)) u.1:=fun u=>(HM.at u.2).look hyw
 have HLKP:=zH hlk
 have HX0:=zH hx
 clear ht hy her hyw hbd hr hlk hx
 refine at_baseC (W:=W) fun uq=> ?_
 go_enter Try.func60,Try.ntmps60
 go_wp2_with fail
 (refine (dec_is x t y er HT.out HY.out HE.out _ HX0.out).mono ?_;rintro e w1 ⟨rfl,hx⟩;replace hx:=Ext.trans (a:=W) zE hx)
 have HV:=pers_new w1 #[.int .i64 t,.int .i64 y] 126 _ rfl
 replace hx:=hx.alloc (.cells #[.int .i64 t,.int .i64 y] 126)
 go_wp2_with fail
 generalize w1.alloc (.cells #[.int .i64 t,.int .i64 y] 126)=W1 at*
 generalize w1.heap.size=X at*
 have g1:=HV.cells
 have g2:∀u:ExtOf W1,u.1.cell? ⟨L,12,none⟩=some (.map (some mb)):=fun u=>g12 ⟨u.1,hx.trans u.2⟩
 have HX:=zH hx
 have hx1:=Ext.refl W1
 clear hx g12
 by_cases h0:er=0
 rotate_left
 ·have q0:(er==0)=false:=by rw [beq_eq_false_iff_ne];exact h0
  have HRR:Hid (leadsB S x=false):=zH (by rw [HR.out,decide_eq_false h0];rfl)
  clear h0
  (refine wp_region_ext (W:=W1) (by kernel_rfl) (by kernel_rfl) (by with_reducible assumption) ?_;(repeat (go_big_quiet_step (fail)));refine wpQuiet_nil ?_;intro w1 hx)
  (obtain ⟨uq,rfl⟩:∃u:ExtOf W1,w1=u.1:=⟨⟨w1,hx⟩,rfl⟩;clear hx;go_wp2_with fail)
  go_ret
  exact ⟨ret_bool HRR.out.symm,HX.out.trans (ExtOf.ext _)⟩
 subst h0
 by_cases h2:t=2
 rotate_left
 ·have q2:(t !=2)=true:=by rw [bne_iff_ne];exact h2
  have HRR:Hid (leadsB S x=true):=zH (by rw [HR.out];simp [h2])
  clear h2
  (refine wp_region_ext (W:=W1) (by kernel_rfl) (by kernel_rfl) (by with_reducible assumption) ?_;(repeat (go_big_quiet_step (fail)));refine wpQuiet_nil ?_;intro w1 hx)
  (obtain ⟨uq,rfl⟩:∃u:ExtOf W1,w1=u.1:=⟨⟨w1,hx⟩,rfl⟩;clear hx;go_wp2_with fail)
  go_ret
  exact ⟨ret_bool HRR.out.symm,HX.out.trans (ExtOf.ext _)⟩
 subst h2
 have HRR:Hid (leadsB S x=S y):=zH (by rw [HR.out];simp)
 have g3:∀u:ExtOf W1,(Instr.lookup 84 (.map (some mb)) (.int .i64 y) false).run Try.prog u.1= .ok (.bool (S y)) u.1:=fun u=>HLKP.out ⟨u.1,HX.out.trans u.2⟩
 (refine wp_region_ext (W:=W1) (by kernel_rfl) (by kernel_rfl) (by with_reducible assumption) ?_;(repeat (go_big_quiet_step (fail)));refine wpQuiet_nil ?_;intro w1 hx)
 (obtain ⟨uq,rfl⟩:∃u:ExtOf W1,w1=u.1:=⟨⟨w1,hx⟩,rfl⟩;clear hx;go_wp2_with fail)
 go_ret
 exact ⟨ret_bool HRR.out.symm,HX.out.trans (ExtOf.ext _)⟩
end
def handleB (S:Int→Bool) (x:Bool×Int×Int):Bool:= !x.1 || leadsB S x.2.2
def fieldsO (l:Option (List Int)) (S:Int→Bool) (x:Int):Bool:=(List.range (headH l x).f.toNat).all fun k=>leadsB S (fldZ l x k false)
theorem fld_bd {ws:List Int} (h:∀z∈ws,0≤z∧z < 18446744073709551616) (i k:Int) (raw:Bool):0≤fldZ (some ws) i k raw∧fldZ (some ws) i k raw < 18446744073709551616:=by
 rw [fldZ]
 split
 ·rename_i h0
  have h1:=(place_in h0).2.2.2.1
  obtain ⟨ws',he,h2,h3⟩:=atA_zero h1
  injection he with he
  subst he
  rw [rdA,if_pos h1]
  simp only [Option.getD_some]
  exact h _ (getD_mem (by omega))
 ·omega
section
variable {c0 c1 c2 c3 : Int} {sn : Bool} {wA : Option Addr} {ws : List Int} {wc : Nat} {top : Int} {tA : Option Addr} {tb : List (Int × Int)} {tc : Nat} {fA : Option Addr} {fr : List (Int × Int)} {fc : Nat} {sA : Option Addr} {sl : List (Bool × Int × Int)} {sc : Nat}
variable {V W : World} {L c mb n : Nat} {A1 : Option Addr} {cap1 : Nat} {wv : List Int} {A2 : Option Addr} {cap2 : Nat} {zs : List Int} {S : Int → Bool}
theorem sthandles_any (hLk:LkW V W L #[.int .i64 c0,.int .i64 c1,.int .i64 c2,.int .i64 c3,.bool sn,.slice wA ws.length wc,.int .i64 top,.slice tA tb.length tc,.slice fA fr.length fc,.slice sA sl.length sc] c mb n A1 cap1 wv A2 cap2 zs S) (HS:Pers V (fun w=>SlotsAt w sA sl)) (hlen:sl.length≤98304) (hbd:∀x∈sl,0≤x.2.2∧x.2.2 < 18446744073709551616):
  Calls Try.prog 49 #[.pointer (some ⟨L,0,none⟩)] W fun e w'=>e= .returned (.bool (sl.all (handleB S)))∧Ext W w':=by
 have hB:Pers W (fun w=>w.heap[L]?=some (.cells #[.int .i64 c0,.int .i64 c1,.int .i64 c2,.int .i64 c3,.bool sn,.slice wA ws.length wc,.int .i64 top,.slice tA tb.length tc,.slice fA fr.length fc,.slice sA sl.length sc,.pointer (some ⟨c,0,none⟩),.slice A2 zs.length cap2,.map (some mb)] 86 (0,0))):=fun w k=>(hLk.grow k).blk
 have HM:Pers W (fun w=>SetI w mb n S):=fun w k=>(hLk.grow k).st
 have HSW:=HS.re hLk.ext
 have HBD:=zH hbd
 have g:=hB.cells
 clear hLk hbd
 refine at_baseC (W:=W) fun uq=> ?_
 go_enter Try.func49,Try.ntmps49
 go_wp2_with fail
 go_loopw [4,11] (fun _ i wr=>∃k:Nat,k≤sl.length∧i= .int .i64 k∧Ext W wr∧Hid (∀i,i < k→handleB S (sl.getD i (false,0,0))=true)) (fun _ i _=>sl.length - (intOf i).toNat)
 case atStart=>exact ⟨0,by omega,rfl,uq.2,zH (by omega)⟩
 case round=>
  obtain ⟨k,hk,rfl,hxr,hq⟩:=hrel
  obtain ⟨uq,rfl⟩:∃u:ExtOf W,wr=u.1:=⟨⟨wr,hxr⟩,rfl⟩
  clear hxr
  by_cases hlt:k < sl.length
  rotate_left
  ·have HA:Hid (sl.all (handleB S)=true):=zH (all_ofD fun i hi=>hq.out i (by omega))
   clear hq
   go_wp2_with fail
   go_ret
   exact ⟨ret_bool HA.out.symm,uq.2⟩
  obtain ⟨lb,off,rfl,hc⟩:=(HSW.at uq.2).get (by omega)
  obtain ⟨c1',c2',c3'⟩:=slots_cell hc hlt
  have hzb:=HBD.out _ (getD_mem (d:=(false,0,0)) hlt)
  have ib1:(k:Int) < (sl.length:Int):=by omega
  have HY:=zH (fun (h:handleB S (sl.getD k (false,0,0))=true)=>upTo hq.out h)
  have HNO:=zH (fun (h:handleB S (sl.getD k (false,0,0))=false)=>all_notD (p:=handleB S) hlt h)
  clear hc hq
  generalize sl.getD k (false,0,0)=x at*
  obtain ⟨b,y,z⟩:=x
  simp only at c1' c2' c3' hzb
  obtain ⟨r,hr⟩:∃r,leadsB S z=r:=⟨_,rfl⟩
  have HR:=zH hr
  have HHB:Hid (handleB S (b,y,z)=(!b || r)):=zH (by simp only [handleB,hr])
  have HZB:=zH hzb
  clear hr hzb
  cases b
  ·have HYY:=zH (HY.out (by rw [HHB.out];rfl))
   go_wp2_with fail
   go_roundw
   case rel=>exact ⟨k+1,by omega,by go_num,uq.2.alloc _,HYY⟩
   case measure=>simp [intOf];omega
  ·have hS:=pers_new uq.1 #[.bool true,.int .i64 y,.int .u64 z] 56 _ rfl
   have hx:=uq.2.alloc (.cells #[.bool true,.int .i64 y,.int .u64 z] 56)
   go_wp2_with fail
   generalize uq.1.alloc (.cells #[.bool true,.int .i64 y,.int .u64 z] 56)=W1 at*
   generalize uq.1.heap.size=X at*
   have HX:=zH hx
   have g1:=hS.cells
   have hB1:=hB.re hx
   have HM1:=HM.re hx
   clear g hx c1' c2' c3'
   cases r
   ·((first | refine at_baseC (W:=W1) ?_ | refine at_base (W:=W1) ?_);intro uq;(try go_wp2_with fail))
    (refine (leads_any z _ HR.out (fun u=>hB1.cells u 12) HM1 HZB.out _ zE).mono ?_;rintro e wq ⟨rfl,hx⟩;replace hx:=Ext.trans (a:=W1) zE hx;obtain ⟨uq,rfl⟩:∃u:ExtOf W1,wq=u.1:=⟨⟨wq,hx⟩,rfl⟩;clear hx;go_wp2_with fail)
    go_ret
    exact ⟨ret_bool (HNO.out (by rw [HHB.out];rfl)).symm,HX.out.trans (ExtOf.ext _)⟩
   ·((first | refine at_baseC (W:=W1) ?_ | refine at_base (W:=W1) ?_);intro uq;(try go_wp2_with fail))
    (refine (leads_any z _ HR.out (fun u=>hB1.cells u 12) HM1 HZB.out _ zE).mono ?_;rintro e wq ⟨rfl,hx⟩;replace hx:=Ext.trans (a:=W1) zE hx;obtain ⟨uq,rfl⟩:∃u:ExtOf W1,wq=u.1:=⟨⟨wq,hx⟩,rfl⟩;clear hx;go_wp2_with fail)
    go_roundw
    case rel=>exact ⟨k+1,by omega,by go_num,HX.out.trans (ExtOf.ext _),zH (HY.out (by rw [HHB.out];rfl))⟩
    case measure=>simp [intOf];omega
end
theorem ofield_is (p:Option Addr) (l:Option (List Int)) (i k z er:Int) (h1:fldZ l i k false=z) (h2:placeE l i k false=er) (V:World) (hp:ArP V p l) (hi: -9223372036854775808≤i∧i≤9223372036854775807):
  Calls Try.prog 59 #[.pointer p,.int .i64 i,.int .i64 k] V fun e w'=>e= .returned (.tuple #[.int .u64 z,.int .i64 er])∧Ext V w':=by
 rw [←h1,←h2];exact ofield_any p l i k V hp hi
section
variable {c0 c1 c2 c3 : Int} {sn : Bool} {wA : Option Addr} {ws : List Int} {wc : Nat} {top : Int} {tA : Option Addr} {tb : List (Int × Int)} {tc : Nat} {fA : Option Addr} {fr : List (Int × Int)} {fc : Nat} {sA : Option Addr} {sl : List (Bool × Int × Int)} {sc : Nat}
variable {V W : World} {L c mb n : Nat} {A1 : Option Addr} {cap1 : Nat} {wv : List Int} {A2 : Option Addr} {cap2 : Nat} {zs : List Int} {S : Int → Bool}
theorem stfields_any (hLk:LkW V W L #[.int .i64 c0,.int .i64 c1,.int .i64 c2,.int .i64 c3,.bool sn,.slice wA ws.length wc,.int .i64 top,.slice tA tb.length tc,.slice fA fr.length fc,.slice sA sl.length sc] c mb n A1 cap1 wv A2 cap2 zs S) (R:Bool) (hR1:R=true→∀x,S x=true→fieldsO (some wv) S x=true) (hR2:(∀x,S x=true→fieldsO (some wv) S x=true)→R=true):
  Calls Try.prog 48 #[.pointer (some ⟨L,0,none⟩)] W fun e w'=>e= .returned (.bool R)∧Ext W w':=by
 have hB:Pers W (fun w=>w.heap[L]?=some (.cells #[.int .i64 c0,.int .i64 c1,.int .i64 c2,.int .i64 c3,.bool sn,.slice wA ws.length wc,.int .i64 top,.slice tA tb.length tc,.slice fA fr.length fc,.slice sA sl.length sc,.pointer (some ⟨c,0,none⟩),.slice A2 zs.length cap2,.map (some mb)] 86 (0,0))):=fun w k=>(hLk.grow k).blk
 have HAR:Pers W (fun w=>ArP w (some ⟨c,0,none⟩) (some wv)):=fun w k=>(hLk.grow k).ar.p
 have HM:Pers W (fun w=>SetI w mb n S):=fun w k=>(hLk.grow k).st
 have HFB:=zH (fun i k=>fld_bd hLk.ar.bd i k false)
 have H1:=zH hR1
 have H2:=zH hR2
 have g:=hB.cells
 clear hLk hR1 hR2
 refine at_baseC (W:=W) fun uq=> ?_
 go_enter Try.func48,Try.ntmps48
 go_wp2_with (first | (at_range;refine wpList_set_range rfl (.tmp 12) rfl (HM.at uq.2) rfl ?_;intro w0 cnt hrg hx0;have HRG:=zH hrg;have HX0:=zH (uq.2.trans hx0);clear hrg hx0) | go_in)
 go_frame
 have hr0:W.heap.size≤uq.1.heap.size:=uq.2.size
 generalize uq.1.heap.size=r at*
 go_loopw [3,4,5,6,7,8,29] (fun _ _ _ _ _ _ _ wr=>∃(left:Int→Bool) (cnt:Nat),Hid (RngI wr mb r n S left cnt)∧Ext W wr∧Hid (∀x,S x=true→left x=false→fieldsO (some wv) S x=true)∧Hid (∀x,left x=true→S x=true)) (fun _ _ _ _ _ _ _ wr=>wr.rangeLeft mb r)
 case atStart=>exact ⟨S,cnt,HRG,HX0.out,zH (fun x h1 h2=>by rw [h1]at h2;cases h2),zH (fun x h=>h)⟩
 case round=>
  obtain ⟨left,cnt',HR,hxr,HF,HLS⟩:=hrel
  clear HRG
  have HXR:=zH hxr
  clear hxr
  go_wp2_with (first | (at_next;refine wpList_set_next rfl (.tmp 13) rfl rfl HR.out ?_ ?_) | go_in)
  ·intro hl0
   have HT:=zH (H2.out fun x hx=>HF.out x hx (hl0 x))
   clear hl0
   go_wp2_with fail
   go_ret
   exact ⟨ret_bool HT.out.symm,HXR.out⟩
  intro x w1 cnt1 hwx hlx hrg1 hlt hg1 hs1 hen
  have hx1:Ext W w1:=Below.grown HXR.out hg1 HXR.out.size (fun k hk=>by injection hk with hk;omega)
  have HRG1:=hrg1.pers
  have hlf:=HR.out.left_eq
  have HLE:=zH hlf
  have HLT:=zH hlt
  have hxb: -9223372036854775808≤x∧x≤9223372036854775807:=i64_bd hwx
  have HSX:=zH (HLS.out x hlx)
  obtain ⟨er,her⟩:∃e,headE (some wv) x=e:=⟨_,rfl⟩
  obtain ⟨h,hh⟩:∃h,headH (some wv) x=h:=⟨_,rfl⟩
  have hfb:0≤h.f∧h.f≤4096:=by
   by_cases h0:headE (some wv) x=0
   ·have:=head_sum h0;rw [hh]at this;omega
   ·have h2:=headH_bad rfl h0
    rw [hh]at h2
    rw [h2];exact ⟨by decide,by decide⟩
  obtain ⟨hf1,hf2⟩:=hfb
  have HER:=zH her
  have HH:=zH hh
  have HX1:=zH hx1
  clear hrg1 hlt hg1 hs1 hwx hlx her hlf g hx1
  replace hB:=hB.re HX1.out
  replace HAR:=HAR.re HX1.out
  replace HM:=HM.re HX1.out
  have g1:=(cells_of hB.here).1
  clear HR
  go_wp2_with fail
  (refine (ohead_is (some ⟨c,0,none⟩) (some wv) x h er HH.out HER.out _ (HAR.at zE) hxb).mono ?_;rintro e w2 ⟨rfl,hx⟩;replace hx:=Ext.trans (a:=w1) zE hx)
  have HBH:=pers_new w2 #[.int .i64 h.k,.int .i64 h.f,.int .i64 h.r,.bool h.m,.int .i64 h.c] 99 _ rfl
  replace hx:=hx.alloc (.cells #[.int .i64 h.k,.int .i64 h.f,.int .i64 h.r,.bool h.m,.int .i64 h.c] 99)
  clear hen g1
  go_wp2_with fail
  generalize w2.alloc (.cells #[.int .i64 h.k,.int .i64 h.f,.int .i64 h.r,.bool h.m,.int .i64 h.c] 99)=W3 at*
  generalize w2.heap.size=X at*
  (replace hB:=hB.re hx;replace HAR:=HAR.re hx;replace HM:=HM.re hx;replace HRG1:=HRG1.re hx)
  have HX3:=zH (HX1.out.trans hx)
  have g:=hB.cells
  clear hx HBH
  have hx3:=Ext.refl W3
  go_loopw [6,7,8,29] (fun _ _ _ i wr=>∃k:Nat,i= .int .i64 k∧(k:Int)≤h.f∧Ext W3 wr∧Hid (∀j:Nat,j < k→leadsB S (fldZ (some wv) x j false)=true)) (fun _ _ _ i _=>(h.f - intOf i).toNat)
  case atStart=>exact ⟨0,rfl,by omega,hx3,zH (by omega)⟩
  case round=>
   obtain ⟨k,rfl,hk,hxr,hq⟩:=hrel
   obtain ⟨uq,rfl⟩:∃u:ExtOf W3,wr=u.1:=⟨⟨wr,hxr⟩,rfl⟩
   clear hxr
   by_cases hlt:(k:Int) < h.f
   rotate_left
   ·have d1:decide ((k:Int) < h.f)=false:=by simpa using hlt
    have HFO:Hid (fieldsO (some wv) S x=true):=zH (by
     rw [fieldsO,HH.out,List.all_eq_true]
     intro j hj
     exact hq.out j (by have:=List.mem_range.1 hj;omega))
    have HRG4:=zH (HRG1.at uq.2)
    have HX4:=zH (HX3.out.trans uq.2)
    have HF4:Hid (∀y,S y=true→(left y && !(y==x))=false→fieldsO (some wv) S y=true):=zH (fun y hy hl=>by
     by_cases e:y=x
     ·rw [e];exact HFO.out
     ·refine HF.out y hy ?_
      have h0:(y==x)=false:=by rw [beq_eq_false_iff_ne];exact e
      simpa [h0]using hl)
    have HL4:Hid (∀y,(left y && !(y==x))=true→S y=true):=zH (fun y hy=>HLS.out y (by
     simp only [Bool.and_eq_true]at hy;exact hy.1))
    clear hq hlt hk
    go_wp2_with fail
    go_roundw
    case rel=>exact ⟨_,cnt1,HRG4,HX4.out,HF4,HL4⟩
    case measure=>rw [HRG4.out.left_eq,HLE.out];exact HLT.out
   have d1:decide ((k:Int) < h.f)=true:=by simpa using hlt
   obtain ⟨z,hz⟩:∃z,fldZ (some wv) x k false=z:=⟨_,rfl⟩
   obtain ⟨er2,her2⟩:∃z,placeE (some wv) x k false=z:=⟨_,rfl⟩
   obtain ⟨r,hr⟩:∃r,leadsB S z=r:=⟨_,rfl⟩
   have hzb:=HFB.out x k
   rw [hz]at hzb
   have HZ:=zH hz
   have HE2:=zH her2
   have HR:=zH hr
   have HZB:=zH hzb
   clear hz her2 hr hzb
   cases r
   ·have HRF : Hid (R = false) := zH (by
     cases hR:R
     ·rfl
     ·have h0:=H1.out hR x HSX.out
      rw [fieldsO,HH.out,List.all_eq_true]at h0
      have h2:=h0 k (List.mem_range.2 (by omega))
      rw [HZ.out,HR.out]at h2
      cases h2)
    go_wp2_with fail
    (refine (ofield_is (some ⟨c,0,none⟩) (some wv) x k z er2 HZ.out HE2.out _ (HAR.at zE) hxb).mono ?_;rintro e wq ⟨rfl,hx⟩;replace hx:=Ext.trans (a:=W3) zE hx;obtain ⟨uq,rfl⟩:∃u:ExtOf W3,wq=u.1:=⟨⟨wq,hx⟩,rfl⟩;clear hx;go_wp2_with fail)
    (refine (leads_any z _ HR.out (fun u=>hB.cells u 12) HM HZB.out _ zE).mono ?_;rintro e wq ⟨rfl,hx⟩;replace hx:=Ext.trans (a:=W3) zE hx;obtain ⟨uq,rfl⟩:∃u:ExtOf W3,wq=u.1:=⟨⟨wq,hx⟩,rfl⟩;clear hx;go_wp2_with fail)
    go_ret
    exact ⟨ret_bool HRF.out.symm,HX3.out.trans (ExtOf.ext _)⟩
   ·have HQ : Hid (∀ j : Nat, j < k + 1 → leadsB S (fldZ (some wv) x j false) = true) := zH (fun j hj => by
     rcases Nat.lt_or_ge j k with h' | h'
     ·exact hq.out j h'
     ·obtain rfl:j=k:=by omega
      rw [HZ.out];exact HR.out)
    clear hq
    go_wp2_with fail
    (refine (ofield_is (some ⟨c,0,none⟩) (some wv) x k z er2 HZ.out HE2.out _ (HAR.at zE) hxb).mono ?_;rintro e wq ⟨rfl,hx⟩;replace hx:=Ext.trans (a:=W3) zE hx;obtain ⟨uq,rfl⟩:∃u:ExtOf W3,wq=u.1:=⟨⟨wq,hx⟩,rfl⟩;clear hx;go_wp2_with fail)
    (refine (leads_any z _ HR.out (fun u=>hB.cells u 12) HM HZB.out _ zE).mono ?_;rintro e wq ⟨rfl,hx⟩;replace hx:=Ext.trans (a:=W3) zE hx;obtain ⟨uq,rfl⟩:∃u:ExtOf W3,wq=u.1:=⟨⟨wq,hx⟩,rfl⟩;clear hx;go_wp2_with fail)
    go_roundw
    case rel=>exact ⟨k+1,by go_num,by omega,ExtOf.ext _,HQ⟩
    case measure=>simp [intOf];omega
end
def smallsL (c0 c1 c2 c3:Int) (sn:Bool) (ws:List Int) (top:Int):List Int:=listA (some ws) (halfA c0 c1 c2 c3 sn) (halfS c0 c1 c2 c3) top
def startsB (zs:List Int) (tb:List (Int×Int)):Int→Bool:=fun x=>decide (x∈zs) || decide (x∈tb.map (·.1))
noncomputable def ruleL (c0 c1 c2 c3:Int) (sn:Bool) (ws:List Int) (top:Int) (tb fr:List (Int×Int)) (sl:List (Bool×Int×Int)):List Bool:=
 [cfgB c0 c1 c2 c3,decide ((ws.length:Int)=wordsZ c0 c1 c2 c3),topB c0 c1 c2 c3 sn top,decide (stopE (some ws) (halfA c0 c1 c2 c3 sn) (halfS c0 c1 c2 c3) top=0),(smallsL c0 c1 c2 c3 sn ws top).all (smallO (some ws) c0 c1 c2 c3),
  ledR (largeA c0 c1 c2 c3) (largeS c0 c1 c2 c3) tb fr && tb.all (largeO (some ws) c0 c1 c2 c3),slotsB sl c2,(smallsL c0 c1 c2 c3 sn ws top++tb.map (·.1)).all (fieldsO (some ws) (startsB (smallsL c0 c1 c2 c3 sn ws top) tb)),
  sl.all (handleB (startsB (smallsL c0 c1 c2 c3 sn ws top) tb))]
def firstZ (rs:List Bool):Int:=match rs.findIdx? (fun b=> !b)with
 | some i=>i+1
 | none=>0
noncomputable def checkZ (c0 c1 c2 c3:Int) (sn:Bool) (ws:List Int) (top:Int) (tb fr:List (Int×Int)) (sl:List (Bool×Int×Int)):Int:=firstZ (ruleL c0 c1 c2 c3 sn ws top tb fr sl)
theorem first_at {rs:List Bool} {k:Nat} (hk:k < rs.length) (h:∀j,j < k→rs.getD j true=true) (h0:rs.getD k true=false):firstZ rs=k+1:=by
 have:rs.findIdx? (fun b=> !b)=some k:=by
  rw [List.findIdx?_eq_some_iff_getElem]
  refine ⟨hk,by simpa [hk]using h0,fun j hj=> ?_⟩
  have:=h j hj
  simpa [show j < rs.length by omega]using this
 rw [firstZ,this]
theorem first_none {rs:List Bool} (h:∀j,j < rs.length→rs.getD j true=true):firstZ rs=0:=by
 have:rs.findIdx? (fun b=> !b)=none:=by
  rw [List.findIdx?_eq_none_iff]
  intro x hx
  obtain ⟨i,hi,rfl⟩:=List.getElem_of_mem hx
  have:=h i hi
  simpa [hi]using this
 rw [firstZ,this]
def ruleC:Array Value:= #[.func (.func 41) #[] #[],.func (.func 42) #[] #[],.func (.func 43) #[] #[],.func (.func 44) #[] #[],.func (.func 45) #[] #[],.func (.func 46) #[] #[],.func (.func 47) #[] #[],.func (.func 48) #[] #[],.func (.func 49) #[] #[]]
theorem rules_any (w:World):Calls Try.prog 39 #[] w fun e w'=>e= .returned (.slice (some ⟨w.heap.size,0,none⟩) 9 9)∧w'=w.alloc (.cells ruleC 90):=by
 go_enter Try.func39,Try.ntmps39
 go_wp2
 go_ret
 exact ⟨rfl,rfl⟩
def JLk (V:World) (cs:Array Value) (L k:Nat) (ws zs:List Int) (tb:List (Int×Int)) (W:World):Prop:=
 (k≤3∧W.heap[L]?=some (.cells (cs++ #[.pointer none,.slice none 0 0,.map none]) 86 (0,0)))∨
 (4≤k∧∃c mb n A1 cap1 A2 cap2,V.heap.size≤mb∧n≤2199023255553+98304∧(k≤5→n≤2199023255553)∧LkW V W L cs c mb n A1 cap1 ws A2 cap2 zs (if k≤5 then fun x=>decide (x∈zs)else startsB zs tb))
structure JSt (V:World) (cs:Array Value) (L R k:Nat) (ws zs:List Int) (tb:List (Int×Int)) (rs:List Bool) (W:World):Prop where
 ext:Ext V W
 low:V.heap.size≤L
 rul:W.heap[R]?=some (.cells ruleC 90 (0,0))
 ne:R≠L
 lk:JLk V cs L k ws zs tb W
 ok:∀j,j < k→rs.getD j true=true
theorem JSt.grow {V:World} {cs:Array Value} {L R k:Nat} {ws zs:List Int} {tb:List (Int×Int)} {rs:List Bool} {W W':World} (h:JSt V cs L R k ws zs tb rs W) (hx:Ext W W'):JSt V cs L R k ws zs tb rs W':=
 ⟨h.ext.trans hx,h.low,(hx.block (lt_of_heap h.rul)).trans h.rul,h.ne,h.lk.imp (fun h=>⟨h.1,(hx.block (lt_of_heap h.2)).trans h.2⟩) (fun ⟨h0,c,mb,n,A1,cap1,A2,cap2,h1,h2,h3,h4⟩=>⟨h0,c,mb,n,A1,cap1,A2,cap2,h1,h2,h3,h4.grow hx⟩),h.ok⟩
theorem JSt.next {V:World} {cs:Array Value} {L R k:Nat} {ws zs:List Int} {tb:List (Int×Int)} {rs:List Bool} {W:World} (h:JSt V cs L R k ws zs tb rs W) (h3:k≠3) (h5:k≠5) (hr:rs.getD k true=true):JSt V cs L R (k+1) ws zs tb rs W:=
 ⟨h.ext,h.low,h.rul,h.ne,h.lk.imp (fun h=>⟨by omega,h.2⟩) (fun ⟨h0,c,mb,n,A1,cap1,A2,cap2,h1,h2,h4,h6⟩=>⟨by omega,c,mb,n,A1,cap1,A2,cap2,h1,h2,fun hk=>h4 (by omega),by
  by_cases hk:k≤5
  ·rw [if_pos hk]at h6;rw [if_pos (by omega)];exact h6
  ·rw [if_neg hk]at h6;rw [if_neg (by omega)];exact h6⟩),fun j hj=>by
  rcases Nat.lt_or_ge j k with h' | h'
  ·exact h.ok j h'
  ·obtain rfl:j=k:=by omega
   exact hr⟩
section
variable {c0 c1 c2 c3 : Int} {sn : Bool} {wA : Option Addr} {ws : List Int} {wc : Nat} {top : Int} {tA : Option Addr} {tb : List (Int × Int)} {tc : Nat} {fA : Option Addr} {fr : List (Int × Int)} {fc : Nat} {sA : Option Addr} {sl : List (Bool × Int × Int)} {sc : Nat}
def RetJ (V:World) (cs:Array Value) (n:Int) (ws zs:List Int) (tb:List (Int×Int)) (e:Ending) (w':World):Prop:=
 ∃L,e= .returned (.tuple #[.pointer (some ⟨L,0,none⟩),.int .i64 n])∧Ext V w'∧(n=0→∃c mb k A1 cap1 A2 cap2,LkW V w' L cs c mb k A1 cap1 ws A2 cap2 zs (startsB zs tb))
theorem judge_any (V:World) (HW:Pers V (fun w=>WordsAt w wA ws)) (HT:Pers V (fun w=>SpansAt w tA tb)) (HF:Pers V (fun w=>SpansAt w fA fr)) (HS:Pers V (fun w=>SlotsAt w sA sl)) (hwl:ws.length≤98304) (htl:tb.length≤98304) (hfl:fr.length≤98304) (hsl:sl.length≤98304)
  (hwb:∀z∈ws,0≤z∧z < 18446744073709551616) (htb:∀x∈tb,(-9223372036854775808≤x.1∧x.1≤9223372036854775807)) (hsb:∀x∈sl,0≤x.2.2∧x.2.2 < 18446744073709551616):
  Calls Try.prog 32 #[.agg #[.int .i64 c0,.int .i64 c1,.int .i64 c2,.int .i64 c3,.bool sn,.slice wA ws.length wc,.int .i64 top,.slice tA tb.length tc,.slice fA fr.length fc,.slice sA sl.length sc]] V (RetJ V #[.int .i64 c0,.int .i64 c1,.int .i64 c2,.int .i64 c3,.bool sn,.slice wA ws.length wc,.int .i64 top,.slice tA tb.length tc,.slice fA fr.length fc,.slice sA sl.length sc] (checkZ c0 c1 c2 c3 sn ws top tb fr sl) ws (smallsL c0 c1 c2 c3 sn ws top) tb):=by
 have hzb:=fun x (h:x∈smallsL c0 c1 c2 c3 sn ws top)=>list_bd (l:=some ws) (a:=halfA c0 c1 c2 c3 sn) (s:=halfS c0 c1 c2 c3) (top:=top) h
 have hzl:(smallsL c0 c1 c2 c3 sn ws top).length≤2199023255553:=list_len (some ws) (halfA c0 c1 c2 c3 sn) (halfS c0 c1 c2 c3) top
 obtain ⟨zs,hz⟩:∃zs,smallsL c0 c1 c2 c3 sn ws top=zs:=⟨_,rfl⟩
 obtain ⟨rs,hrs⟩:∃rs,ruleL c0 c1 c2 c3 sn ws top tb fr sl=rs:=⟨_,rfl⟩
 rw [hz]at hzb hzl
 have HRS:=zH hrs
 have hRL:rs.length=9:=by rw [←hrs];rfl
 have HRL:=zH hRL
 have HCK:Hid (checkZ c0 c1 c2 c3 sn ws top tb fr sl=firstZ rs):=zH (by rw [checkZ,hrs])
 rw [HCK.out,hz]
 have HZ:=zH hz
 have HZB:=zH hzb
 have HWB:=zH hwb
 have HTB:=zH htb
 have HSB:=zH hsb
 have hL0:=blk_old (o2:= .cells ruleC 90) (blk_new (V.alloc (.cells #[.int .i64 c0,.int .i64 c1,.int .i64 c2,.int .i64 c3,.bool sn,.slice wA ws.length wc,.int .i64 top,.slice tA tb.length tc,.slice fA fr.length fc,.slice sA sl.length sc] 28)) #[.int .i64 c0,.int .i64 c1,.int .i64 c2,.int .i64 c3,.bool sn,.slice wA ws.length wc,.int .i64 top,.slice tA tb.length tc,.slice fA fr.length fc,.slice sA sl.length sc,.pointer none,.slice none 0 0,.map none] 86 (V.heap.size+1) (by simp))
 have hR0:=blk_new ((V.alloc (.cells #[.int .i64 c0,.int .i64 c1,.int .i64 c2,.int .i64 c3,.bool sn,.slice wA ws.length wc,.int .i64 top,.slice tA tb.length tc,.slice fA fr.length fc,.slice sA sl.length sc] 28)).alloc (.cells #[.int .i64 c0,.int .i64 c1,.int .i64 c2,.int .i64 c3,.bool sn,.slice wA ws.length wc,.int .i64 top,.slice tA tb.length tc,.slice fA fr.length fc,.slice sA sl.length sc,.pointer none,.slice none 0 0,.map none] 86)) ruleC 90 (V.heap.size+1+1) (by simp)
 have hX0:=(((Ext.refl V).alloc (.cells #[.int .i64 c0,.int .i64 c1,.int .i64 c2,.int .i64 c3,.bool sn,.slice wA ws.length wc,.int .i64 top,.slice tA tb.length tc,.slice fA fr.length fc,.slice sA sl.length sc] 28)).alloc (.cells #[.int .i64 c0,.int .i64 c1,.int .i64 c2,.int .i64 c3,.bool sn,.slice wA ws.length wc,.int .i64 top,.slice tA tb.length tc,.slice fA fr.length fc,.slice sA sl.length sc,.pointer none,.slice none 0 0,.map none] 86)).alloc (.cells ruleC 90)
 have HJ0:Hid (JSt V #[.int .i64 c0,.int .i64 c1,.int .i64 c2,.int .i64 c3,.bool sn,.slice wA ws.length wc,.int .i64 top,.slice tA tb.length tc,.slice fA fr.length fc,.slice sA sl.length sc] (V.heap.size+1) (V.heap.size+1+1) 0 ws zs tb rs _):=zH ⟨hX0,by omega,hR0,by omega,.inl ⟨by omega,hL0⟩,by omega⟩
 clear hz hrs hRL hzb hwb htb hsb hL0 hR0 hX0
 go_enter Try.func32,Try.ntmps32
 go_wp2_with fail
 refine (rules_any _).mono ?_
 rintro e w1 ⟨rfl,rfl⟩
 go_wp2_with fail
 generalize ((V.alloc (.cells #[.int .i64 c0,.int .i64 c1,.int .i64 c2,.int .i64 c3,.bool sn,.slice wA ws.length wc,.int .i64 top,.slice tA tb.length tc,.slice fA fr.length fc,.slice sA sl.length sc] 28)).alloc (.cells #[.int .i64 c0,.int .i64 c1,.int .i64 c2,.int .i64 c3,.bool sn,.slice wA ws.length wc,.int .i64 top,.slice tA tb.length tc,.slice fA fr.length fc,.slice sA sl.length sc,.pointer none,.slice none 0 0,.map none] 86)).alloc (.cells ruleC 90)=W0 at*
 generalize V.heap.size+1+1=R at*
 generalize V.heap.size+1=L at*
 go_loopw [5,6,12] (fun _ _ i wr=>∃k:Nat,k≤9∧i= .int .i64 k∧Hid (JSt V #[.int .i64 c0,.int .i64 c1,.int .i64 c2,.int .i64 c3,.bool sn,.slice wA ws.length wc,.int .i64 top,.slice tA tb.length tc,.slice fA fr.length fc,.slice sA sl.length sc] L R k ws zs tb rs wr)) (fun _ _ i _=>9 - (intOf i).toNat)
 case atStart=>exact ⟨0,by omega,rfl,HJ0⟩
 case round=>
  obtain ⟨k,hk,rfl,HJ⟩:=hrel
  clear HJ0
  have hk9:k=0∨k=1∨k=2∨k=3∨k=4∨k=5∨k=6∨k=7∨k=8∨k=9:=by omega
  have gR:=(cells_of HJ.out.rul).1 k
  have HNO:=zH (fun (w':World) (n:Nat) (hn:n=k+1) (hk:k < 9) (h:rs.getD k true=false) (hx:Ext V w')=>(show RetJ V #[.int .i64 c0,.int .i64 c1,.int .i64 c2,.int .i64 c3,.bool sn,.slice wA ws.length wc,.int .i64 top,.slice tA tb.length tc,.slice fA fr.length fc,.slice sA sl.length sc] (firstZ rs) ws zs tb (.returned (.tuple #[.pointer (some ⟨L,0,none⟩),.int .i64 (n:Int)])) w' from ⟨L,by rw [first_at (by rw [HRL.out];exact hk) HJ.out.ok h,hn];rfl,hx,fun h0=>by rw [first_at (by rw [HRL.out];exact hk) HJ.out.ok h]at h0;omega⟩))
  rcases hk9 with rfl | rfl | rfl | rfl | rfl | rfl | rfl | rfl | rfl | rfl
  ·
   replace gR:wr.cell? ⟨R,0,none⟩=some (.func (.func 41) #[] #[]):=gR
   have hb:=HJ.out.lk.elim (fun h=>h.2) (fun h=>absurd h.1 (by decide))
   obtain ⟨b,hbv⟩:∃b,(cfgB c0 c1 c2 c3)=b:=⟨_,rfl⟩
   have HRK:Hid (rs.getD 0 true=b):=zH (by rw [←HRS.out,←hbv];rfl)
   have HBV:=zH hbv
   clear hbv
   have Z:=stconfig_any (pers_blk hb)
   rw [HBV.out]at Z
   cases b
   ·go_wp2_with fail
    refine Z.mono ?_
    clear Z
    rintro e w2 ⟨rfl,hx⟩
    have HX2:=zH hx
    clear hx
    clear gR hb
    go_wp2_with fail
    go_ret2
    exact HNO.out _ 1 rfl (by decide) HRK.out (HJ.out.ext.trans HX2.out)
   ·go_wp2_with fail
    refine Z.mono ?_
    clear Z
    rintro e w2 ⟨rfl,hx⟩
    have HX2:=zH hx
    clear hx
    clear gR hb
    go_wp2_with fail
    have HJ2:Hid (JSt V #[.int .i64 c0,.int .i64 c1,.int .i64 c2,.int .i64 c3,.bool sn,.slice wA ws.length wc,.int .i64 top,.slice tA tb.length tc,.slice fA fr.length fc,.slice sA sl.length sc] L R 1 ws zs tb rs w2):=zH ((HJ.out.grow HX2.out).next (by decide) (by decide) HRK.out)
    go_roundw
    case rel=>exact ⟨1,by omega,by first | rfl | go_num,HJ2⟩
    case measure=>simp [intOf]
  ·
   replace gR:wr.cell? ⟨R,1,none⟩=some (.func (.func 42) #[] #[]):=gR
   have hb:=HJ.out.lk.elim (fun h=>h.2) (fun h=>absurd h.1 (by decide))
   obtain ⟨b,hbv⟩:∃b,(decide ((ws.length:Int)=wordsZ c0 c1 c2 c3))=b:=⟨_,rfl⟩
   have HRK:Hid (rs.getD 1 true=b):=zH (by rw [←HRS.out,←hbv];rfl)
   have HBV:=zH hbv
   clear hbv
   have Z:=stwords_any (pers_blk hb) (by omega)
   rw [HBV.out]at Z
   cases b
   ·go_wp2_with fail
    refine Z.mono ?_
    clear Z
    rintro e w2 ⟨rfl,hx⟩
    have HX2:=zH hx
    clear hx
    clear gR hb
    go_wp2_with fail
    go_ret2
    exact HNO.out _ 2 rfl (by decide) HRK.out (HJ.out.ext.trans HX2.out)
   ·go_wp2_with fail
    refine Z.mono ?_
    clear Z
    rintro e w2 ⟨rfl,hx⟩
    have HX2:=zH hx
    clear hx
    clear gR hb
    go_wp2_with fail
    have HJ2:Hid (JSt V #[.int .i64 c0,.int .i64 c1,.int .i64 c2,.int .i64 c3,.bool sn,.slice wA ws.length wc,.int .i64 top,.slice tA tb.length tc,.slice fA fr.length fc,.slice sA sl.length sc] L R 2 ws zs tb rs w2):=zH ((HJ.out.grow HX2.out).next (by decide) (by decide) HRK.out)
    go_roundw
    case rel=>exact ⟨2,by omega,by first | rfl | go_num,HJ2⟩
    case measure=>simp [intOf]
  ·
   replace gR:wr.cell? ⟨R,2,none⟩=some (.func (.func 43) #[] #[]):=gR
   have hb:=HJ.out.lk.elim (fun h=>h.2) (fun h=>absurd h.1 (by decide))
   obtain ⟨b,hbv⟩:∃b,(topB c0 c1 c2 c3 sn top)=b:=⟨_,rfl⟩
   have HRK:Hid (rs.getD 2 true=b):=zH (by rw [←HRS.out,←hbv];rfl)
   have HBV:=zH hbv
   clear hbv
   have Z:=sttop_any (pers_blk hb)
   rw [HBV.out]at Z
   cases b
   ·go_wp2_with fail
    refine Z.mono ?_
    clear Z
    rintro e w2 ⟨rfl,hx⟩
    have HX2:=zH hx
    clear hx
    clear gR hb
    go_wp2_with fail
    go_ret2
    exact HNO.out _ 3 rfl (by decide) HRK.out (HJ.out.ext.trans HX2.out)
   ·go_wp2_with fail
    refine Z.mono ?_
    clear Z
    rintro e w2 ⟨rfl,hx⟩
    have HX2:=zH hx
    clear hx
    clear gR hb
    go_wp2_with fail
    have HJ2:Hid (JSt V #[.int .i64 c0,.int .i64 c1,.int .i64 c2,.int .i64 c3,.bool sn,.slice wA ws.length wc,.int .i64 top,.slice tA tb.length tc,.slice fA fr.length fc,.slice sA sl.length sc] L R 3 ws zs tb rs w2):=zH ((HJ.out.grow HX2.out).next (by decide) (by decide) HRK.out)
    go_roundw
    case rel=>exact ⟨3,by omega,by first | rfl | go_num,HJ2⟩
    case measure=>simp [intOf]
  ·
   replace gR:wr.cell? ⟨R,3,none⟩=some (.func (.func 44) #[] #[]):=gR
   have hb:=HJ.out.lk.elim (fun h=>h.2) (fun h=>absurd h.1 (by decide))
   obtain ⟨b,hbv⟩:∃b,(decide (stopE (some ws) (halfA c0 c1 c2 c3 sn) (halfS c0 c1 c2 c3) top=0))=b:=⟨_,rfl⟩
   have HRK:Hid (rs.getD 3 true=b):=zH (by rw [←HRS.out,←hbv];rfl)
   have HBV:=zH hbv
   clear hbv
   have Z:=stwalks_any HJ.out.ext HJ.out.low hb HW hwl HWB.out
   rw [show listA (some ws) (halfA c0 c1 c2 c3 sn) (halfS c0 c1 c2 c3) top=zs from HZ.out,HBV.out]at Z
   cases b
   ·go_wp2_with fail
    refine Z.mono ?_
    clear Z
    rintro e w2 ⟨c,mb,A1,cap1,A2,cap2,rfl,hmb,hlk,hkc⟩
    have HL2:=zH hlk
    have HK2:=zH hkc
    clear hlk hkc
    clear gR hb
    go_wp2_with fail
    go_ret2
    exact HNO.out _ 4 rfl (by decide) HRK.out (HL2.out.ext)
   ·go_wp2_with fail
    refine Z.mono ?_
    clear Z
    rintro e w2 ⟨c,mb,A1,cap1,A2,cap2,rfl,hmb,hlk,hkc⟩
    have HL2:=zH hlk
    have HK2:=zH hkc
    clear hlk hkc
    clear gR hb
    go_wp2_with fail
    have HJ2:Hid (JSt V #[.int .i64 c0,.int .i64 c1,.int .i64 c2,.int .i64 c3,.bool sn,.slice wA ws.length wc,.int .i64 top,.slice tA tb.length tc,.slice fA fr.length fc,.slice sA sl.length sc] L R 4 ws zs tb rs w2):=zH ⟨HL2.out.ext,HJ.out.low,HK2.out.keep R _ HJ.out.ne HJ.out.rul rfl,HJ.out.ne,.inr ⟨by decide,c,mb,zs.length,A1,cap1,A2,cap2,hmb,by omega,fun _=>hzl,by simp only [show (4:Nat)≤5 from by decide,if_true];exact HL2.out⟩,fun j hj=>by
     rcases Nat.lt_or_ge j 3 with h' | h'
     ·exact HJ.out.ok j h'
     ·obtain rfl:j=3:=by omega
      exact HRK.out⟩
    go_roundw
    case rel=>exact ⟨4,by omega,by first | rfl | go_num,HJ2⟩
    case measure=>simp [intOf]
  ·
   replace gR:wr.cell? ⟨R,4,none⟩=some (.func (.func 45) #[] #[]):=gR
   obtain ⟨-,c,mb,n,A1,cap1,A2,cap2,hmb,hn,hn5,hlk⟩:=HJ.out.lk.elim (fun h=>absurd h.1 (by decide)) (fun h=>h)
   simp only [show (4:Nat)≤5 from by decide,if_true]at hlk
   have HLK:=zH hlk
   clear hlk
   obtain ⟨b,hbv⟩:∃b,(zs.all (smallO (some ws) c0 c1 c2 c3))=b:=⟨_,rfl⟩
   have HRK:Hid (rs.getD 4 true=b):=zH (by rw [←HRS.out,←hbv,←HZ.out];rfl)
   have HBV:=zH hbv
   clear hbv
   have Z:=stsmalls_any HLK.out (fun x hx=>(HZB.out x hx).2.2) hzl
   rw [HBV.out]at Z
   cases b
   ·go_wp2_with fail
    refine Z.mono ?_
    clear Z
    rintro e w2 ⟨rfl,hx⟩
    have HX2:=zH hx
    clear hx
    clear gR
    go_wp2_with fail
    go_ret2
    exact HNO.out _ 5 rfl (by decide) HRK.out (HJ.out.ext.trans HX2.out)
   ·go_wp2_with fail
    refine Z.mono ?_
    clear Z
    rintro e w2 ⟨rfl,hx⟩
    have HX2:=zH hx
    clear hx
    clear gR
    go_wp2_with fail
    have HJ2:Hid (JSt V #[.int .i64 c0,.int .i64 c1,.int .i64 c2,.int .i64 c3,.bool sn,.slice wA ws.length wc,.int .i64 top,.slice tA tb.length tc,.slice fA fr.length fc,.slice sA sl.length sc] L R 5 ws zs tb rs w2):=zH ((HJ.out.grow HX2.out).next (by decide) (by decide) HRK.out)
    go_roundw
    case rel=>exact ⟨5,by omega,by first | rfl | go_num,HJ2⟩
    case measure=>simp [intOf]
  ·
   replace gR:wr.cell? ⟨R,5,none⟩=some (.func (.func 46) #[] #[]):=gR
   obtain ⟨-,c,mb,n,A1,cap1,A2,cap2,hmb,hn,hn5,hlk⟩:=HJ.out.lk.elim (fun h=>absurd h.1 (by decide)) (fun h=>h)
   simp only [show (5:Nat)≤5 from by decide,if_true]at hlk
   have HLK:=zH hlk
   clear hlk
   obtain ⟨b,hbv⟩:∃b,(ledR (largeA c0 c1 c2 c3) (largeS c0 c1 c2 c3) tb fr && tb.all (largeO (some ws) c0 c1 c2 c3))=b:=⟨_,rfl⟩
   have HRK:Hid (rs.getD 5 true=b):=zH (by rw [←HRS.out,←hbv];rfl)
   have HBV:=zH hbv
   clear hbv
   have Z:=stlarges_any HLK.out hmb (hn5 (by decide)) HT HF htl hfl HTB.out
   rw [HBV.out]at Z
   cases b
   ·go_wp2_with fail
    refine Z.mono ?_
    clear Z
    rintro e w2 ⟨rfl,n',S',hlk,hle,hS,hkc⟩
    have HL2:=zH hlk
    have HK2:=zH hkc
    have HS2:=zH hS
    clear hlk hkc hS
    clear gR
    go_wp2_with fail
    go_ret2
    exact HNO.out _ 6 rfl (by decide) HRK.out (HL2.out.ext)
   ·go_wp2_with fail
    refine Z.mono ?_
    clear Z
    rintro e w2 ⟨rfl,n',S',hlk,hle,hS,hkc⟩
    have HL2:=zH hlk
    have HK2:=zH hkc
    have HS2:Hid (S'=startsB zs tb):=zH (hS rfl)
    clear hlk hkc hS
    clear gR
    go_wp2_with fail
    have HJ2:Hid (JSt V #[.int .i64 c0,.int .i64 c1,.int .i64 c2,.int .i64 c3,.bool sn,.slice wA ws.length wc,.int .i64 top,.slice tA tb.length tc,.slice fA fr.length fc,.slice sA sl.length sc] L R 6 ws zs tb rs w2):=zH ⟨HL2.out.ext,HJ.out.low,HK2.out.keep R _ HJ.out.ne HJ.out.rul rfl,HJ.out.ne,.inr ⟨by decide,c,mb,n',A1,cap1,A2,cap2,hmb,by have:=hn5 (by decide);omega,fun h=>absurd h (by decide),by
     have h7:=HL2.out
     rw [HS2.out]at h7
     simp only [show ¬(6:Nat)≤5 from by decide,if_false]
     exact h7⟩,fun j hj=>by
     rcases Nat.lt_or_ge j 5 with h' | h'
     ·exact HJ.out.ok j h'
     ·obtain rfl:j=5:=by omega
      exact HRK.out⟩
    go_roundw
    case rel=>exact ⟨6,by omega,by first | rfl | go_num,HJ2⟩
    case measure=>simp [intOf]
  ·
   replace gR:wr.cell? ⟨R,6,none⟩=some (.func (.func 47) #[] #[]):=gR
   obtain ⟨-,c,mb,n,A1,cap1,A2,cap2,hmb,hn,hn5,hlk⟩:=HJ.out.lk.elim (fun h=>absurd h.1 (by decide)) (fun h=>h)
   simp only [show ¬(6:Nat)≤5 from by decide,if_false]at hlk
   have HLK:=zH hlk
   clear hlk
   obtain ⟨b,hbv⟩:∃b,(slotsB sl c2)=b:=⟨_,rfl⟩
   have HRK:Hid (rs.getD 6 true=b):=zH (by rw [←HRS.out,←hbv];rfl)
   have HBV:=zH hbv
   clear hbv
   have Z:=stslots_any (p:= .pointer (some ⟨c,0,none⟩)) (fun w k=>(HLK.out.grow k).blk) (HS.re HJ.out.ext) (by omega) HSB.out
   rw [HBV.out]at Z
   cases b
   ·go_wp2_with fail
    refine Z.mono ?_
    clear Z
    rintro e w2 ⟨rfl,hx⟩
    have HX2:=zH hx
    clear hx
    clear gR
    go_wp2_with fail
    go_ret2
    exact HNO.out _ 7 rfl (by decide) HRK.out (HJ.out.ext.trans HX2.out)
   ·go_wp2_with fail
    refine Z.mono ?_
    clear Z
    rintro e w2 ⟨rfl,hx⟩
    have HX2:=zH hx
    clear hx
    clear gR
    go_wp2_with fail
    have HJ2:Hid (JSt V #[.int .i64 c0,.int .i64 c1,.int .i64 c2,.int .i64 c3,.bool sn,.slice wA ws.length wc,.int .i64 top,.slice tA tb.length tc,.slice fA fr.length fc,.slice sA sl.length sc] L R 7 ws zs tb rs w2):=zH ((HJ.out.grow HX2.out).next (by decide) (by decide) HRK.out)
    go_roundw
    case rel=>exact ⟨7,by omega,by first | rfl | go_num,HJ2⟩
    case measure=>simp [intOf]
  ·
   replace gR:wr.cell? ⟨R,7,none⟩=some (.func (.func 48) #[] #[]):=gR
   obtain ⟨-,c,mb,n,A1,cap1,A2,cap2,hmb,hn,hn5,hlk⟩:=HJ.out.lk.elim (fun h=>absurd h.1 (by decide)) (fun h=>h)
   simp only [show ¬(7:Nat)≤5 from by decide,if_false]at hlk
   have HLK:=zH hlk
   clear hlk
   obtain ⟨b,hbv⟩:∃b,((zs++tb.map (·.1)).all (fieldsO (some ws) (startsB zs tb)))=b:=⟨_,rfl⟩
   have HRK:Hid (rs.getD 7 true=b):=zH (by rw [←HRS.out,←hbv,←HZ.out];rfl)
   have HBV:=zH hbv
   clear hbv
   have HF1:Hid (b=true→∀x,startsB zs tb x=true→fieldsO (some ws) (startsB zs tb) x=true):=zH (fun h x hx=>by
    have h0:=HBV.out
    rw [h,List.all_eq_true]at h0
    refine h0 x ?_
    simp only [startsB,Bool.or_eq_true,decide_eq_true_eq]at hx
    exact List.mem_append.2 hx)
   have HF2:Hid ((∀x,startsB zs tb x=true→fieldsO (some ws) (startsB zs tb) x=true)→b=true):=zH (fun h=>by
    rw [←HBV.out,List.all_eq_true]
    intro x hx
    refine h x ?_
    simp only [startsB,Bool.or_eq_true,decide_eq_true_eq]
    exact List.mem_append.1 hx)
   have Z:=stfields_any HLK.out b HF1.out HF2.out
   cases b
   ·go_wp2_with fail
    refine Z.mono ?_
    clear Z
    rintro e w2 ⟨rfl,hx⟩
    have HX2:=zH hx
    clear hx
    clear gR
    go_wp2_with fail
    go_ret2
    exact HNO.out _ 8 rfl (by decide) HRK.out (HJ.out.ext.trans HX2.out)
   ·go_wp2_with fail
    refine Z.mono ?_
    clear Z
    rintro e w2 ⟨rfl,hx⟩
    have HX2:=zH hx
    clear hx
    clear gR
    go_wp2_with fail
    have HJ2:Hid (JSt V #[.int .i64 c0,.int .i64 c1,.int .i64 c2,.int .i64 c3,.bool sn,.slice wA ws.length wc,.int .i64 top,.slice tA tb.length tc,.slice fA fr.length fc,.slice sA sl.length sc] L R 8 ws zs tb rs w2):=zH ((HJ.out.grow HX2.out).next (by decide) (by decide) HRK.out)
    go_roundw
    case rel=>exact ⟨8,by omega,by first | rfl | go_num,HJ2⟩
    case measure=>simp [intOf]
  ·
   replace gR:wr.cell? ⟨R,8,none⟩=some (.func (.func 49) #[] #[]):=gR
   obtain ⟨-,c,mb,n,A1,cap1,A2,cap2,hmb,hn,hn5,hlk⟩:=HJ.out.lk.elim (fun h=>absurd h.1 (by decide)) (fun h=>h)
   simp only [show ¬(8:Nat)≤5 from by decide,if_false]at hlk
   have HLK:=zH hlk
   clear hlk
   obtain ⟨b,hbv⟩:∃b,(sl.all (handleB (startsB zs tb)))=b:=⟨_,rfl⟩
   have HRK:Hid (rs.getD 8 true=b):=zH (by rw [←HRS.out,←hbv,←HZ.out];rfl)
   have HBV:=zH hbv
   clear hbv
   have Z:=sthandles_any HLK.out HS hsl HSB.out
   rw [HBV.out]at Z
   cases b
   ·go_wp2_with fail
    refine Z.mono ?_
    clear Z
    rintro e w2 ⟨rfl,hx⟩
    have HX2:=zH hx
    clear hx
    clear gR
    go_wp2_with fail
    go_ret2
    exact HNO.out _ 9 rfl (by decide) HRK.out (HJ.out.ext.trans HX2.out)
   ·go_wp2_with fail
    refine Z.mono ?_
    clear Z
    rintro e w2 ⟨rfl,hx⟩
    have HX2:=zH hx
    clear hx
    clear gR
    go_wp2_with fail
    have HJ2:Hid (JSt V #[.int .i64 c0,.int .i64 c1,.int .i64 c2,.int .i64 c3,.bool sn,.slice wA ws.length wc,.int .i64 top,.slice tA tb.length tc,.slice fA fr.length fc,.slice sA sl.length sc] L R 9 ws zs tb rs w2):=zH ((HJ.out.grow HX2.out).next (by decide) (by decide) HRK.out)
    go_roundw
    case rel=>exact ⟨9,by omega,by first | rfl | go_num,HJ2⟩
    case measure=>simp [intOf]
  ·obtain ⟨-,c,mb,n,A1,cap1,A2,cap2, -, -, -,hlk⟩:=HJ.out.lk.elim (fun h=>absurd h.1 (by decide)) (fun h=>h)
   simp only [show ¬(9:Nat)≤5 from by decide,if_false]at hlk
   have HLK:=zH hlk
   have H0:Hid (firstZ rs=0):=zH (first_none (fun j hj=>HJ.out.ok j (by rw [←HRL.out];exact hj)))
   clear hlk gR HNO
   go_wp2_with fail
   go_ret2
   exact ⟨L,by rw [H0.out];rfl,HJ.out.ext,fun _=>⟨c,mb,n,A1,cap1,A2,cap2,HLK.out⟩⟩
end
section
variable {c0 c1 c2 c3 : Int} {sn : Bool} {wA : Option Addr} {ws : List Int} {wc : Nat} {top : Int} {tA : Option Addr} {tb : List (Int × Int)} {tc : Nat} {fA : Option Addr} {fr : List (Int × Int)} {fc : Nat} {sA : Option Addr} {sl : List (Bool × Int × Int)} {sc : Nat}
theorem stcheck_any (V:World) (HW:Pers V (fun w=>WordsAt w wA ws)) (HT:Pers V (fun w=>SpansAt w tA tb)) (HF:Pers V (fun w=>SpansAt w fA fr)) (HS:Pers V (fun w=>SlotsAt w sA sl)) (hwl:ws.length≤98304) (htl:tb.length≤98304) (hfl:fr.length≤98304) (hsl:sl.length≤98304)
  (hwb:∀z∈ws,0≤z∧z < 18446744073709551616) (htb:∀x∈tb,(-9223372036854775808≤x.1∧x.1≤9223372036854775807)) (hsb:∀x∈sl,0≤x.2.2∧x.2.2 < 18446744073709551616):
  Calls Try.prog 13 #[.agg #[.int .i64 c0,.int .i64 c1,.int .i64 c2,.int .i64 c3,.bool sn,.slice wA ws.length wc,.int .i64 top,.slice tA tb.length tc,.slice fA fr.length fc,.slice sA sl.length sc]] V fun e w'=>e= .returned (.int .i64 (checkZ c0 c1 c2 c3 sn ws top tb fr sl))∧Ext V w':=by
 have hx0:=(Ext.refl V).alloc (.cells #[.int .i64 c0,.int .i64 c1,.int .i64 c2,.int .i64 c3,.bool sn,.slice wA ws.length wc,.int .i64 top,.slice tA tb.length tc,.slice fA fr.length fc,.slice sA sl.length sc] 28)
 have Z:=judge_any (c0:=c0) (c1:=c1) (c2:=c2) (c3:=c3) (sn:=sn) (wc:=wc) (top:=top) (tc:=tc) (fc:=fc) (sc:=sc) _ (HW.re hx0) (HT.re hx0) (HF.re hx0) (HS.re hx0) hwl htl hfl hsl hwb htb hsb
 have HX0:=zH hx0
 clear hx0 HW HT HF HS hwb htb hsb
 generalize checkZ c0 c1 c2 c3 sn ws top tb fr sl=k at*
 go_enter Try.func13,Try.ntmps13
 go_wp2_with fail
 refine Z.mono ?_
 clear Z
 rintro e w1 ⟨L,rfl,hx, -⟩
 have HX:=zH hx
 clear hx
 go_wp2_with fail
 go_ret
 exact ⟨rfl,HX0.out.trans HX.out⟩
end
section
variable {c0 c1 c2 c3 : Int} {sn : Bool} {wA : Option Addr} {ws : List Int} {wc : Nat} {top : Int} {tA : Option Addr} {tb : List (Int × Int)} {tc : Nat} {fA : Option Addr} {fr : List (Int × Int)} {fc : Nat} {sA : Option Addr} {sl : List (Bool × Int × Int)} {sc : Nat}
variable {V : World} {L : Nat} {p sm m : Value}
end
def bigB (w t f s:Nat):Bool:=decide (400 < w∨60 < t∨60 < f∨100 < s)
section
variable {c0 c1 c2 c3 : Int} {sn : Bool} {wA : Option Addr} {ws : List Int} {wc : Nat} {top : Int} {tA : Option Addr} {tb : List (Int × Int)} {tc : Nat} {fA : Option Addr} {fr : List (Int × Int)} {fc : Nat} {sA : Option Addr} {sl : List (Bool × Int × Int)} {sc : Nat}
variable {V : World}
theorem large15_any (V:World) (hw:ws.length≤9223372036854775807) (ht:tb.length≤9223372036854775807) (hf:fr.length≤9223372036854775807) (hs:sl.length≤9223372036854775807):
  Calls Try.prog 4 #[.agg #[.int .i64 c0,.int .i64 c1,.int .i64 c2,.int .i64 c3,.bool sn,.slice wA ws.length wc,.int .i64 top,.slice tA tb.length tc,.slice fA fr.length fc,.slice sA sl.length sc]] V fun e w'=>e= .returned (.bool (bigB ws.length tb.length fr.length sl.length))∧Ext V w':=by
 generalize ws.length=n1 at*
 generalize tb.length=n2 at*
 generalize fr.length=n3 at*
 generalize sl.length=n4 at*
 by_cases h1:400 < n1
 ·have d1:decide ((400:Int) < (n1:Int))=true:=by simp;omega
  have HR:Hid (bigB n1 n2 n3 n4=true):=zH (by simp [bigB];omega)
  clear h1
  go_enter Try.func4,Try.ntmps4
  go_wp2_with fail
  go_ret
  exact ⟨ret_bool HR.out.symm,(Ext.refl V).alloc _⟩
 have d1:decide ((400:Int) < (n1:Int))=false:=by simp;omega
 by_cases h2:60 < n2
 ·have d2:decide ((60:Int) < (n2:Int))=true:=by simp;omega
  have HR:Hid (bigB n1 n2 n3 n4=true):=zH (by simp [bigB];omega)
  clear h1 h2
  go_enter Try.func4,Try.ntmps4
  go_wp2_with fail
  go_ret
  exact ⟨ret_bool HR.out.symm,(Ext.refl V).alloc _⟩
 have d2:decide ((60:Int) < (n2:Int))=false:=by simp;omega
 by_cases h3:60 < n3
 ·have d3:decide ((60:Int) < (n3:Int))=true:=by simp;omega
  have HR:Hid (bigB n1 n2 n3 n4=true):=zH (by simp [bigB];omega)
  clear h1 h2 h3
  go_enter Try.func4,Try.ntmps4
  go_wp2_with fail
  go_ret
  exact ⟨ret_bool HR.out.symm,(Ext.refl V).alloc _⟩
 have d3:decide ((60:Int) < (n3:Int))=false:=by simp;omega
 by_cases h4:100 < n4
 ·have d4:decide ((100:Int) < (n4:Int))=true:=by simp;omega
  have HR:Hid (bigB n1 n2 n3 n4=true):=zH (by simp [bigB];omega)
  clear h1 h2 h3 h4
  go_enter Try.func4,Try.ntmps4
  go_wp2_with fail
  go_ret
  exact ⟨ret_bool HR.out.symm,(Ext.refl V).alloc _⟩
 ·have d4:decide ((100:Int) < (n4:Int))=false:=by simp;omega
  have HR:Hid (bigB n1 n2 n3 n4=false):=zH (by simp [bigB];omega)
  clear h1 h2 h3 h4
  go_enter Try.func4,Try.ntmps4
  go_wp2_with fail
  go_ret
  exact ⟨ret_bool HR.out.symm,(Ext.refl V).alloc _⟩
end
section
variable {c0 c1 c2 c3 : Int} {sn : Bool} {wA : Option Addr} {ws : List Int} {wc : Nat} {top : Int} {tA : Option Addr} {tb : List (Int × Int)} {tc : Nat} {fA : Option Addr} {fr : List (Int × Int)} {fc : Nat} {sA : Option Addr} {sl : List (Bool × Int × Int)} {sc : Nat}
end
end Go.Proofs.Ytemmjmplhknemaa
