/- Merged by program (merge.py) out of: PkW, PkY. -/
import Derived.Test.YtemmjmplhknemaaMp39
import Derived.Test.YtemmjmplhknemaaMp42
import Derived.Test.YtemmjmplhknemaaMp45
import Derived.Test.YtemmjmplhknemaaMp19
import Derived.Test.YtemmjmplhknemaaMp28
import Derived.Test.YtemmjmplhknemaaMp12
set_option linter.unusedSimpArgs false
set_option linter.unusedVariables false
set_option maxRecDepth 100000
set_option maxHeartbeats 16000000
namespace Go.Proofs.Ytemmjmplhknemaa
open Go.RowKit Go.Shelf
theorem pdec_any (bl:List UInt8) (hb:bl.length≤100000) (V:World):Calls Try.prog 8 #[.string ⟨bl.toArray⟩] V (RetDe V bl):=by
 have hsz:(⟨bl.toArray⟩:ByteArray).size=bl.length:=by show bl.toArray.size=_;simp
 obtain ⟨R,hR⟩:∃R,V.heap.size=R:=⟨_,rfl⟩
 have HI:Hid (DecI V 100000 (R+1) (R+1+1) R #[.int .i64 0,.int .i64 0,.int .i64 0,.int .i64 0,.bool false,.slice none 0 0,.int .i64 0,.slice none 0 0,.slice none 0 0,.slice none 0 0] (((V.alloc (.cells #[.int .i64 0,.int .i64 0,.int .i64 0,.int .i64 0,.bool false,.slice none 0 0,.int .i64 0,.slice none 0 0,.slice none 0 0,.slice none 0 0] 28)).alloc (.cells #[.string ⟨bl.toArray⟩,.bool false] 49)).alloc (.cells #[.int .i64 0,.int .i64 0,.int .i64 0,.int .i64 0,.bool false,.slice none 0 0,.int .i64 0,.slice none 0 0,.slice none 0 0,.slice none 0 0] 28)) (some bl) ⟨bl.toArray⟩ false):=zH
  ⟨⟨blk_old (blk_new _ _ _ _ (by simp;omega)),rfl,by rw [hsz];exact hb⟩,blk_new _ _ _ _ (by simp;omega),blk_old (blk_old (blk_new _ _ _ _ hR)),(((Ext.refl V).alloc _).alloc _).alloc _,by omega,by omega⟩
 replace hR:=zH hR
 clear hsz
 go_enter Try.func8,Try.ntmps8
 go_wp2_with fail
 rw [hR.out]
 generalize hX:R+1=X at*
 generalize hS:X+1=S at*
 replace hX:=zH hX
 replace hS:=zH hS
 refine (rtake_any (by decide) HI.out.rd 4 (by decide) (by decide)).mono ?_
 rintro e w1 ⟨l,st1,s1,b1,rfl,ht,hr,ho⟩
 replace HI:=zH (HI.out.only hr ho)
 obtain ⟨m,hm⟩:∃m:Bool,(!(l== [84,82,73,1]))=m:=⟨_,rfl⟩
 have HQ:Hid (decO (fun c=>c !=0) 32768 bl=(if m then none else some s1.data.toList).bind (dq0 (fun c=>c !=0) 32768)):=zH (Stq.magic ht (by rw [←hm];by_cases h:l= [84,82,73,1] <;>simp [h,mgB]))
 clear ht hr ho
 have lS:=lt_of_heap HI.out.sb
 have gX:=(cells_of HI.out.rd.blk).1
 have fX:=(cells_of HI.out.rd.blk).2
 have lX:=lt_of_heap HI.out.rd.blk
 go_wp2_with fail
 replace HI:=zH ((HI.out.mark m).grow ((Ext.refl _).alloc (.cells #[.pointer (some ⟨S,0,none⟩),.pointer (some ⟨S,1,none⟩),.pointer (some ⟨S,2,none⟩),.pointer (some ⟨S,3,none⟩)] 50)))
 have HP:=blk_new (w1.setCell ⟨X,1,none⟩ (.bool m)) #[.pointer (some ⟨S,0,none⟩),.pointer (some ⟨S,1,none⟩),.pointer (some ⟨S,2,none⟩),.pointer (some ⟨S,3,none⟩)] 50 w1.heap.size (by simp)
 have hPX:X≠w1.heap.size:=by omega
 have hPS:S≠w1.heap.size:=by omega
 generalize (w1.setCell ⟨X,1,none⟩ (.bool m)).alloc (.cells #[.pointer (some ⟨S,0,none⟩),.pointer (some ⟨S,1,none⟩),.pointer (some ⟨S,2,none⟩),.pointer (some ⟨S,3,none⟩)] 50)=w2 at*
 generalize w1.heap.size=P at*
 replace HP:=zH HP
 replace hPX:=zH hPX
 replace hPS:=zH hPS
 clear gX fX lX lS hm
 refine wp_loop_rounds 5 ?_
 have gP:=(cells_of HP.out).1
 have lP:=lt_of_heap HP.out
 rw [rounds_succ]
 go_wp2_with fail
 refine (rnumber_any (by decide) HI.out.rd 32768 (by decide)).mono ?_
 rintro e v0 ⟨c0,st0,s0,b0,rfl,hc0,hr,hs,ho⟩
 replace HI:=zH (HI.out.only hr ho)
 replace HP:=zH ((ho.block P (lt_of_heap HP.out) (by have:=hPX.out;simpa using Ne.symm this)).trans HP.out)
 replace HQ:=zH (HQ.out.trans (hs.bind (dq1 (fun c=>c !=0) 32768)))
 clear hr hs ho gP lP
 have gS:=(cells_of HI.out.sb).1
 have fS:=(cells_of HI.out.sb).2
 have lS:=lt_of_heap HI.out.sb
 go_wp2_with fail
 replace HI:=zH (HI.out.set 0 (.int .i64 c0))
 replace HP:=zH (blk_set_other (i:=0) HP.out (.int .i64 c0) (Ne.symm hPS.out))
 clear gS fS lS
 generalize v0.setCell ⟨S,0,none⟩ (.int .i64 c0)=w at*
 have gP:=(cells_of HP.out).1
 have lP:=lt_of_heap HP.out
 rw [rounds_succ]
 go_wp2_with fail
 refine (rnumber_any (by decide) HI.out.rd 32768 (by decide)).mono ?_
 rintro e v1 ⟨c1,st1,s1,b1,rfl,hc1,hr,hs,ho⟩
 replace HI:=zH (HI.out.only hr ho)
 replace HP:=zH ((ho.block P (lt_of_heap HP.out) (by have:=hPX.out;simpa using Ne.symm this)).trans HP.out)
 replace HQ:=zH (HQ.out.trans (hs.bind (dq2 (fun c=>c !=0) 32768 c0)))
 clear hr hs ho gP lP
 have gS:=(cells_of HI.out.sb).1
 have fS:=(cells_of HI.out.sb).2
 have lS:=lt_of_heap HI.out.sb
 go_wp2_with fail
 replace HI:=zH (HI.out.set 1 (.int .i64 c1))
 replace HP:=zH (blk_set_other (i:=1) HP.out (.int .i64 c1) (Ne.symm hPS.out))
 clear gS fS lS
 generalize v1.setCell ⟨S,1,none⟩ (.int .i64 c1)=w at*
 have gP:=(cells_of HP.out).1
 have lP:=lt_of_heap HP.out
 rw [rounds_succ]
 go_wp2_with fail
 refine (rnumber_any (by decide) HI.out.rd 32768 (by decide)).mono ?_
 rintro e v2 ⟨c2,st2,s2,b2,rfl,hc2,hr,hs,ho⟩
 replace HI:=zH (HI.out.only hr ho)
 replace HP:=zH ((ho.block P (lt_of_heap HP.out) (by have:=hPX.out;simpa using Ne.symm this)).trans HP.out)
 replace HQ:=zH (HQ.out.trans (hs.bind (dq3 (fun c=>c !=0) c0 c1)))
 clear hr hs ho gP lP
 have gS:=(cells_of HI.out.sb).1
 have fS:=(cells_of HI.out.sb).2
 have lS:=lt_of_heap HI.out.sb
 go_wp2_with fail
 replace HI:=zH (HI.out.set 2 (.int .i64 c2))
 replace HP:=zH (blk_set_other (i:=2) HP.out (.int .i64 c2) (Ne.symm hPS.out))
 clear gS fS lS
 generalize v2.setCell ⟨S,2,none⟩ (.int .i64 c2)=w at*
 have gP:=(cells_of HP.out).1
 have lP:=lt_of_heap HP.out
 rw [rounds_succ]
 go_wp2_with fail
 refine (rnumber_any (by decide) HI.out.rd 32768 (by decide)).mono ?_
 rintro e v3 ⟨c3,st3,s3,b3,rfl,hc3,hr,hs,ho⟩
 replace HI:=zH (HI.out.only hr ho)
 replace HP:=zH ((ho.block P (lt_of_heap HP.out) (by have:=hPX.out;simpa using Ne.symm this)).trans HP.out)
 replace HQ:=zH (HQ.out.trans (hs.bind (dq4 (fun c=>c !=0) c0 c1 c2)))
 clear hr hs ho gP lP
 have gS:=(cells_of HI.out.sb).1
 have fS:=(cells_of HI.out.sb).2
 have lS:=lt_of_heap HI.out.sb
 go_wp2_with fail
 replace HI:=zH (HI.out.set 3 (.int .i64 c3))
 replace HP:=zH (blk_set_other (i:=3) HP.out (.int .i64 c3) (Ne.symm hPS.out))
 clear gS fS lS
 generalize v3.setCell ⟨S,3,none⟩ (.int .i64 c3)=w at*
 replace HI:Hid (DecI V 100000 X S R #[.int .i64 c0,.int .i64 c1,.int .i64 c2,.int .i64 c3,.bool false,.slice none 0 0,.int .i64 0,.slice none 0 0,.slice none 0 0,.slice none 0 0] w st3 s3 b3):=HI
 clear HP hPX hPS
 rw [rounds_succ]
 go_wp2_with fail
 refine (rtruth_any (by decide) HI.out.rd).mono ?_
 rintro e v4 ⟨sn,st4,s4,b4,rfl,hr,hs,ho⟩
 replace HI:=zH (HI.out.only hr ho)
 replace HQ:=zH (HQ.out.trans (hs.bind (dq5 (fun c=>c !=0) c0 c1 c2 c3)))
 clear hr hs ho
 have gS:=(cells_of HI.out.sb).1
 have fS:=(cells_of HI.out.sb).2
 have lS:=lt_of_heap HI.out.sb
 go_wp2_with fail
 replace HI:=zH (HI.out.set 4 (.bool sn))
 clear gS fS lS
 generalize v4.setCell ⟨S,4,none⟩ (.bool sn)=w at*
 replace HI:Hid (DecI V 100000 X S R #[.int .i64 c0,.int .i64 c1,.int .i64 c2,.int .i64 c3,.bool sn,.slice none 0 0,.int .i64 0,.slice none 0 0,.slice none 0 0,.slice none 0 0] w st4 s4 b4):=HI
 refine (rnumber_any (by decide) HI.out.rd 98304 (by decide)).mono ?_
 rintro e v5 ⟨tp,st5,s5,b5,rfl,htp,hr,hs,ho⟩
 replace HI:=zH (HI.out.only hr ho)
 replace HQ:=zH (HQ.out.trans (hs.bind (dq6 (fun c=>c !=0) c0 c1 c2 c3 sn)))
 clear hr hs ho
 have gS:=(cells_of HI.out.sb).1
 have fS:=(cells_of HI.out.sb).2
 have lS:=lt_of_heap HI.out.sb
 go_wp2_with fail
 replace HI:=zH (HI.out.set 6 (.int .i64 tp))
 clear gS fS lS
 generalize v5.setCell ⟨S,6,none⟩ (.int .i64 tp)=w at*
 replace HI:Hid (DecI V 100000 X S R #[.int .i64 c0,.int .i64 c1,.int .i64 c2,.int .i64 c3,.bool sn,.slice none 0 0,.int .i64 tp,.slice none 0 0,.slice none 0 0,.slice none 0 0] w st5 s5 b5):=HI
 refine (rspans_any (by decide) HI.out.rd).mono ?_
 rintro e v6 ⟨tA,tc,tb,st6,s6,b6,rfl,htl,htb,how,hr,hs,ho⟩
 have HOT:Hid (Own 62 2 spanC v6 V.heap.size (.slice tA tb.length tc) tb):=zH (how.mono (Ext.size HI.out.ext))
 replace HI:=zH (HI.out.only hr ho)
 replace HQ:=zH (HQ.out.trans (hs.bind (dq7 (fun c=>c !=0) c0 c1 c2 c3 sn tp)))
 clear hr hs ho how
 go_wp2_with fail
 refine (rspans_any (by decide) HI.out.rd).mono ?_
 rintro e v7 ⟨fA,fc,fr,st7,s7,b7,rfl,hfl,hfb,how,hr,hs,ho⟩
 have HOF:Hid (Own 62 2 spanC v7 V.heap.size (.slice fA fr.length fc) fr):=zH (how.mono (Ext.size HI.out.ext))
 replace HOT:=zH (HOT.out.only HI.out.rd (by decide) ho)
 replace HI:=zH (HI.out.only hr ho)
 replace HQ:=zH (HQ.out.trans (hs.bind (dq8 (fun c=>c !=0) c0 c1 c2 c3 sn tp tb)))
 clear hr hs ho how
 have gS:=(cells_of HI.out.sb).1
 have fS:=(cells_of HI.out.sb).2
 have lS:=lt_of_heap HI.out.sb
 go_wp2_with fail
 have HR:Hid (DecR V ((v7.setCell ⟨S,7,none⟩ (.slice tA tb.length tc)).setCell ⟨S,8,none⟩ (.slice fA fr.length fc)) (.slice tA tb.length tc) (.slice fA fr.length fc) (.slice none 0 0) tb fr []):=zH (((⟨HOT.out,HOF.out,Own.nil _ _ _ _ _⟩:DecR V v7 (.slice tA tb.length tc) (.slice fA fr.length fc) (.slice none 0 0) tb fr []).setS HI.out.sb 7 _).setS (HI.out.set 7 _).sb 8 _)
 replace HI:=zH ((HI.out.set 7 (.slice tA tb.length tc)).set 8 (.slice fA fr.length fc))
 clear gS fS lS HOT HOF
 generalize (v7.setCell ⟨S,7,none⟩ (.slice tA tb.length tc)).setCell ⟨S,8,none⟩ (.slice fA fr.length fc)=w at*
 replace HI:Hid (DecI V 100000 X S R #[.int .i64 c0,.int .i64 c1,.int .i64 c2,.int .i64 c3,.bool sn,.slice none 0 0,.int .i64 tp,.slice tA tb.length tc,.slice fA fr.length fc,.slice none 0 0] w st7 s7 b7):=HI
 refine (rnumber_any (by decide) HI.out.rd 1024 (by decide)).mono ?_
 rintro e v8 ⟨n,st8,s8,b8,rfl,hn,hr,hs,ho⟩
 replace HR:=zH (HR.out.only HI.out.rd ho)
 replace HI:=zH (HI.out.only hr ho)
 have HSN:=zH hs
 clear hr hs ho
 go_wp2_with fail
 go_loopw [8] (fun c wr=>∃(k m:Nat) (A:Option Addr) (cap:Nat) (sl:List (Bool×Int×Int)) (st':Option (List UInt8)) (s':ByteArray) (b':Bool),c= .int .i64 k∧Hid (sl.length=m)∧Hid (m+k=n)∧Hid (∀x∈sl,0≤x.2.2∧x.2.2 < 18446744073709551616)∧Hid (DecI V 100000 X S R #[.int .i64 c0,.int .i64 c1,.int .i64 c2,.int .i64 c3,.bool sn,.slice none 0 0,.int .i64 tp,.slice tA tb.length tc,.slice fA fr.length fc,.slice A m cap] wr st' s' b')∧Hid (DecR V wr (.slice tA tb.length tc) (.slice fA fr.length fc) (.slice A m cap) tb fr sl)∧Hid ((st8.bind fun r=>(manyO (slotO fun c=>c !=0) n r).map fun y=>([]++y.1,y.2))=st'.bind fun r=>(manyO (slotO fun c=>c !=0) k r).map fun y=>(sl++y.1,y.2))) (fun c _=>(intOf c).toNat)
 case atStart=>exact ⟨n,0,none,0,[],st8,s8,b8,rfl,zH rfl,zH (by omega),zH (by simp),HI,HR,zH rfl⟩
 case round=>
  clear HI HR
  obtain ⟨k,m9,A,cap,sl,st',s',b',rfl,HM,HK,HB,HI,HR,HE⟩:=hrel
  have gX:=(cells_of HI.out.rd.blk).1
  have lX:=lt_of_heap HI.out.rd.blk
  by_cases hq:k=0∨b'=true
  ·replace HQ := zH (HQ.out.trans ((Stq.list (l := sl) (st' := st') HSN.out (by
    rw [HE.out]
    rcases hq with rfl | rfl
    ·exact many_end
    ·rw [HI.out.rd.st];rfl)).bind (dq9 c0 c1 c2 c3 sn tp tb fr)))
   clear HE HSN
   rcases Nat.eq_zero_or_pos k with rfl | hk
   rotate_left
   ·obtain rfl:b'=true:=by rcases hq with h | h;exact absurd h (by omega);exact h
    have G0:decide ((0:Int) < (k:Int))=true:=by rw [decide_eq_true_eq];omega
    have HNO:Hid (∀s:StD,pkC s=0→StB s→encS s≠bl):=zH (no_heap rfl rfl (by decide) HQ.out (by rw [HI.out.rd.st];intro s h;cases h))
    go_wp2_with (first | (with_reducible refine at_body ?_;refine Hid.out ?_) | (with_reducible refine at_stores (t:=28) ?_;refine wpList_storeStR rfl (.tmp 2) (.tmp 88) rfl R (.int .i64 0) (.int .i64 0) (.int .i64 0) (.int .i64 0) (.bool false) (.slice none 0 0) (.int .i64 0) (.slice none 0 0) (.slice none 0 0) (.slice none 0 0) (.int .i64 0) (.int .i64 0) (.int .i64 0) (.int .i64 0) (.bool false) (.slice none 0 0) (.int .i64 0) (.slice none 0 0) (.slice none 0 0) (.slice none 0 0) rfl rfl HI.out.rb rfl ?_;intro w9 hb9 hown9 hext9;have g9:=(cells_of hb9).1;have l9:=lt_of_heap hb9;have HX9:=zH (hext9 V HI.out.ext HI.out.lo.2.2);clear hb9 hown9 hext9))
    refine zH ?_
    ((try simp only [Exit.inBlock,Exit.then]);refine bodyPost_ret (v:= .tuple #[.agg #[.int .i64 0,.int .i64 0,.int .i64 0,.int .i64 0,.bool false,.slice none 0 0,.int .i64 0,.slice none 0 0,.slice none 0 0,.slice none 0 0],.int .i64 4]) (by simp only [results,Try.results8];go_simp) rfl ?_)
    refine Or.inr ⟨?_,?_,?_⟩
    ·rfl
    ·exact HNO.out
    ·exact HX9.out
   obtain rfl:sl.length=m9:=HM.out
   have gS:=(cells_of HI.out.sb).1
   have lS:=lt_of_heap HI.out.sb
   cases b' with
   | true=>
    have HNO:Hid (∀s:StD,pkC s=0→StB s→encS s≠bl):=zH (no_heap rfl rfl (by decide) HQ.out (by rw [HI.out.rd.st];intro s h;cases h))
    go_wp2_with (first | (with_reducible refine at_body ?_;refine Hid.out ?_) | (with_reducible refine at_stores (t:=28) ?_;refine wpList_storeStR rfl (.tmp 2) (.tmp 88) rfl R (.int .i64 0) (.int .i64 0) (.int .i64 0) (.int .i64 0) (.bool false) (.slice none 0 0) (.int .i64 0) (.slice none 0 0) (.slice none 0 0) (.slice none 0 0) (.int .i64 0) (.int .i64 0) (.int .i64 0) (.int .i64 0) (.bool false) (.slice none 0 0) (.int .i64 0) (.slice none 0 0) (.slice none 0 0) (.slice none 0 0) rfl rfl HI.out.rb rfl ?_;intro w9 hb9 hown9 hext9;have g9:=(cells_of hb9).1;have l9:=lt_of_heap hb9;have HX9:=zH (hext9 V HI.out.ext HI.out.lo.2.2);clear hb9 hown9 hext9))
    refine zH ?_
    ((try simp only [Exit.inBlock,Exit.then]);refine bodyPost_ret (v:= .tuple #[.agg #[.int .i64 0,.int .i64 0,.int .i64 0,.int .i64 0,.bool false,.slice none 0 0,.int .i64 0,.slice none 0 0,.slice none 0 0,.slice none 0 0],.int .i64 4]) (by simp only [results,Try.results8];go_simp) rfl ?_)
    refine Or.inr ⟨?_,?_,?_⟩
    ·rfl
    ·exact HNO.out
    ·exact HX9.out
   | false=>
   cases hcf:cfgB c0 c1 c2 c3 with
   | false=>
    have HNO:Hid (∀s:StD,pkC s=0→StB s→encS s≠bl):=zH (no_heap rfl rfl (by decide) HQ.out (no_cfg hcf))
    go_wp2_with fail
    refine (check_is hcf _).mono ?_
    rintro e w10 ⟨rfl,hx⟩
    replace HI:=zH (HI.out.grow hx)
    clear hx gS lS gX lX
    go_wp2_with (first | (with_reducible refine at_body ?_;refine Hid.out ?_) | (with_reducible refine at_stores (t:=28) ?_;refine wpList_storeStR rfl (.tmp 2) (.tmp 88) rfl R (.int .i64 0) (.int .i64 0) (.int .i64 0) (.int .i64 0) (.bool false) (.slice none 0 0) (.int .i64 0) (.slice none 0 0) (.slice none 0 0) (.slice none 0 0) (.int .i64 0) (.int .i64 0) (.int .i64 0) (.int .i64 0) (.bool false) (.slice none 0 0) (.int .i64 0) (.slice none 0 0) (.slice none 0 0) (.slice none 0 0) rfl rfl HI.out.rb rfl ?_;intro w9 hb9 hown9 hext9;have g9:=(cells_of hb9).1;have l9:=lt_of_heap hb9;have HX9:=zH (hext9 V HI.out.ext HI.out.lo.2.2);clear hb9 hown9 hext9))
    refine zH ?_
    ((try simp only [Exit.inBlock,Exit.then]);refine bodyPost_ret (v:= .tuple #[.agg #[.int .i64 0,.int .i64 0,.int .i64 0,.int .i64 0,.bool false,.slice none 0 0,.int .i64 0,.slice none 0 0,.slice none 0 0,.slice none 0 0],.int .i64 4]) (by simp only [results,Try.results8];go_simp) rfl ?_)
    refine Or.inr ⟨?_,?_,?_⟩
    ·rfl
    ·exact HNO.out
    ·exact HX9.out
   | true=>
    go_wp2_with fail
    refine (check_is hcf _).mono ?_
    rintro e w10 ⟨rfl,hx⟩
    replace HI:=zH (HI.out.grow hx)
    replace HR:=zH (HR.out.ext hx)
    clear hx gS lS gX lX
    have gS:=(cells_of HI.out.sb).1
    have lS:=lt_of_heap HI.out.sb
    obtain ⟨nw,hnw⟩:∃n:Nat,wordsZ c0 c1 c2 c3=(n:Int):=by
     have:=hcf
     simp only [cfgB,decide_eq_true_eq]at this
     refine ⟨(2*c0+c1:Int).toNat,?_⟩
     rw [wordsZ,if_pos hcf]
     omega
    have hnl:nw≤98304:=by
     have h2:=hcf
     simp only [cfgB,decide_eq_true_eq]at h2
     rw [wordsZ,if_pos hcf]at hnw
     omega
    go_wp2_with fail
    refine (lwords_is hnw _).mono ?_
    rintro e w11 ⟨rfl,hx⟩
    replace HI:=zH (HI.out.grow hx)
    replace HR:=zH (HR.out.ext hx)
    clear hx gS lS
    go_wp2_with fail
    refine (rwords_any (by decide) HI.out.rd nw hnl).mono ?_
    rintro e w12 ⟨wA,wc,ws,st9,s9,b9,rfl,hwl,hwb,how,hr,hs,ho⟩
    have HOW:Hid (Own 54 1 u64C w12 V.heap.size (.slice wA ws.length wc) ws):=zH (how.mono (Ext.size HI.out.ext))
    replace HR:=zH (HR.out.only HI.out.rd ho)
    replace HI:=zH (HI.out.only hr ho)
    replace HQ:=zH (HQ.out.trans (dq9_stq hnw hs))
    clear hr hs ho how
    replace HOW:=zH (HOW.out.setOther (i:=5) (u:= .slice wA ws.length wc) HI.out.sb (by decide))
    replace HR:=zH (HR.out.setS HI.out.sb 5 (.slice wA ws.length wc))
    have gS:=(cells_of HI.out.sb).1
    have fS:=(cells_of HI.out.sb).2
    have lS:=lt_of_heap HI.out.sb
    replace HI:=zH (HI.out.set 5 (.slice wA ws.length wc))
    have gX:=(cells_of HI.out.rd.blk).1
    have lX:=lt_of_heap HI.out.rd.blk
    cases b9 with
    | true=>
     have HNO:Hid (∀s:StD,pkC s=0→StB s→encS s≠bl):=zH (no_heap rfl rfl (by decide) HQ.out (by rw [HI.out.rd.st];intro s h;cases h))
     go_wp2_with (first | (with_reducible refine at_body ?_;refine Hid.out ?_) | (with_reducible refine at_stores (t:=28) ?_;refine wpList_storeStR rfl (.tmp 2) (.tmp 117) rfl R (.int .i64 0) (.int .i64 0) (.int .i64 0) (.int .i64 0) (.bool false) (.slice none 0 0) (.int .i64 0) (.slice none 0 0) (.slice none 0 0) (.slice none 0 0) (.int .i64 0) (.int .i64 0) (.int .i64 0) (.int .i64 0) (.bool false) (.slice none 0 0) (.int .i64 0) (.slice none 0 0) (.slice none 0 0) (.slice none 0 0) rfl rfl HI.out.rb rfl ?_;intro w9 hb9 hown9 hext9;have g9:=(cells_of hb9).1;have l9:=lt_of_heap hb9;have HX9:=zH (hext9 V HI.out.ext HI.out.lo.2.2);clear hb9 hown9 hext9))
     refine zH ?_
     ((try simp only [Exit.inBlock,Exit.then]);refine bodyPost_ret (v:= .tuple #[.agg #[.int .i64 0,.int .i64 0,.int .i64 0,.int .i64 0,.bool false,.slice none 0 0,.int .i64 0,.slice none 0 0,.slice none 0 0,.slice none 0 0],.int .i64 4]) (by simp only [results,Try.results8];go_simp) rfl ?_)
     refine Or.inr ⟨?_,?_,?_⟩
     ·rfl
     ·exact HNO.out
     ·exact HX9.out
    | false=>
    obtain ⟨r9,rfl⟩:∃r:List UInt8,s9=⟨r.toArray⟩:=⟨s9.data.toList,by cases s9;rfl⟩
    replace HQ:Hid (decO (fun c=>c !=0) 32768 bl=some ((⟨c0,c1,c2,c3,sn,none,ws,0,tp,none,tb,0,none,fr,0,none,sl,0⟩:StD),r9)):=zH (by rw [HQ.out,HI.out.rd.st];rfl)
    by_cases h9:r9= []
    rotate_left
    ·have HNO : Hid (∀ s : StD, pkC s = 0 → StB s → encS s ≠ bl) := zH (no_heap rfl rfl (by decide) HQ.out (fun s h _ _ => by
      simp only [Option.some.injEq,Prod.mk.injEq]at h
      exact h9 h.2))
     have G9:(r9== [])=false:=by simpa using h9
     go_wp2_with (first | (with_reducible refine at_body ?_;refine Hid.out ?_) | (with_reducible refine at_stores (t:=28) ?_;refine wpList_storeStR rfl (.tmp 2) (.tmp 117) rfl R (.int .i64 0) (.int .i64 0) (.int .i64 0) (.int .i64 0) (.bool false) (.slice none 0 0) (.int .i64 0) (.slice none 0 0) (.slice none 0 0) (.slice none 0 0) (.int .i64 0) (.int .i64 0) (.int .i64 0) (.int .i64 0) (.bool false) (.slice none 0 0) (.int .i64 0) (.slice none 0 0) (.slice none 0 0) (.slice none 0 0) rfl rfl HI.out.rb rfl ?_;intro w9 hb9 hown9 hext9;have g9:=(cells_of hb9).1;have l9:=lt_of_heap hb9;have HX9:=zH (hext9 V HI.out.ext HI.out.lo.2.2);clear hb9 hown9 hext9))
     refine zH ?_
     ((try simp only [Exit.inBlock,Exit.then]);refine bodyPost_ret (v:= .tuple #[.agg #[.int .i64 0,.int .i64 0,.int .i64 0,.int .i64 0,.bool false,.slice none 0 0,.int .i64 0,.slice none 0 0,.slice none 0 0,.slice none 0 0],.int .i64 4]) (by simp only [results,Try.results8];go_simp) rfl ?_)
     refine Or.inr ⟨?_,?_,?_⟩
     ·rfl
     ·exact HNO.out
     ·exact HX9.out
    subst h9
    obtain ⟨t,ht⟩:∃t:StD,t=⟨c0,c1,c2,c3,sn,wA,ws,wc,tp,tA,tb,tc,fA,fr,fc,A,sl,cap⟩:=⟨_,rfl⟩
    have hto:StOwn V.heap.size (w12.setCell ⟨S,5,none⟩ (.slice wA ws.length wc)) t:=by rw [ht];exact ⟨HOW.out,HR.out.t,HR.out.f,HR.out.s⟩
    have hle:StLe t:=by rw [ht];exact ⟨by simp only;omega,by simp only;omega,by simp only;omega,by have:=HK.out;simp only;omega⟩
    have hbd:StB t:=by rw [ht];exact ⟨hwb,fun x hx=>by have:=htb x hx;omega,HB.out⟩
    have hwcap:t.ws.length≤t.wc:=by rw [ht];exact own_cap0 HOW.out
    have hpk:pkC t=pkC ⟨c0,c1,c2,c3,sn,none,ws,0,tp,none,tb,0,none,fr,0,none,sl,0⟩:=by rw [ht];rfl
    have hen:encS t=encS ⟨c0,c1,c2,c3,sn,none,ws,0,tp,none,tb,0,none,fr,0,none,sl,0⟩:=by rw [ht];rfl
    obtain ⟨kk,hkk⟩:∃kk,pkC t=kk:=⟨_,rfl⟩
    have ZC:=zH (fun W:World=>fun hW:StAt W t=>stcheck_s t kk hkk W hW hle hbd)
    by_cases hk0:kk=0
    rotate_left
    ·have HNO : Hid (∀ s : StD, pkC s = 0 → StB s → encS s ≠ bl) := zH (no_heap rfl rfl (by decide) HQ.out (fun s h h2 _ => by
      simp only [Option.some.injEq,Prod.mk.injEq]at h
      rw [←h.1,←hpk,hkk]at h2
      exact hk0 h2))
     have G9:(kk !=0)=true:=by simpa using hk0
     replace hto:=zH hto
     subst ht
     clear hkk hpk hen hwcap hbd hle
     go_wp2_with fail
     refine (ZC.out _ hto.out.at).mono ?_
     rintro e w13 ⟨rfl,hx⟩
     replace HI:=zH (HI.out.grow hx)
     clear hx gS lS fS gX lX hto HR HOW ZC HQ
     go_wp2_with (first | (with_reducible refine at_body ?_;refine Hid.out ?_) | (with_reducible refine at_stores (t:=28) ?_;refine wpList_storeStR rfl (.tmp 2) (.tmp 117) rfl R (.int .i64 0) (.int .i64 0) (.int .i64 0) (.int .i64 0) (.bool false) (.slice none 0 0) (.int .i64 0) (.slice none 0 0) (.slice none 0 0) (.slice none 0 0) (.int .i64 0) (.int .i64 0) (.int .i64 0) (.int .i64 0) (.bool false) (.slice none 0 0) (.int .i64 0) (.slice none 0 0) (.slice none 0 0) (.slice none 0 0) rfl rfl HI.out.rb rfl ?_;intro w9 hb9 hown9 hext9;have g9:=(cells_of hb9).1;have l9:=lt_of_heap hb9;have HX9:=zH (hext9 V HI.out.ext HI.out.lo.2.2);clear hb9 hown9 hext9))
     refine zH ?_
     ((try simp only [Exit.inBlock,Exit.then]);refine bodyPost_ret (v:= .tuple #[.agg #[.int .i64 0,.int .i64 0,.int .i64 0,.int .i64 0,.bool false,.slice none 0 0,.int .i64 0,.slice none 0 0,.slice none 0 0,.slice none 0 0],.int .i64 4]) (by simp only [results,Try.results8];go_simp) rfl ?_)
     refine Or.inr ⟨?_,?_,?_⟩
     ·rfl
     ·exact HNO.out
     ·exact HX9.out
    subst hk0
    obtain ⟨en,hen2⟩:∃en,encS t=en:=⟨_,rfl⟩
    have ZW:=zH (fun W:World=>fun hW:StAt W t=>write_any t hkk hbd hwcap W hW)
    rw [hen2]at ZW hen
    replace hpk:=zH (hpk.symm.trans hkk)
    replace hto:=zH hto
    replace hen:=zH hen
    replace hle:=zH hle
    replace hbd:=zH hbd
    replace hkk:=zH hkk
    replace hen2:=zH hen2
    by_cases he:en=bl
    rotate_left
    ·have HNO : Hid (∀ s : StD, pkC s = 0 → StB s → encS s ≠ bl) := zH (no_heap rfl rfl (by decide) HQ.out (fun s h _ h2 => by
      simp only [Option.some.injEq,Prod.mk.injEq]at h
      rw [←h.1,←hen.out]at h2
      exact he h2))
     have G9:(en==bl)=false:=by simpa using he
     subst ht
     clear hkk hpk hen hen2 hwcap hbd hle
     go_wp2_with fail
     refine (ZC.out _ hto.out.at).mono ?_
     rintro e w13 ⟨rfl,hx⟩
     replace HI:=zH (HI.out.grow hx)
     replace hto:=zH (hto.out.ext hx)
     clear hx gS lS fS gX lX HR HOW ZC HQ
     have gS:=(cells_of HI.out.sb).1
     have lS:=lt_of_heap HI.out.sb
     go_wp2_with fail
     refine (ZW.out _ hto.out.at).mono ?_
     rintro e w14 ⟨rfl,hx⟩
     replace HI:=zH (HI.out.grow hx)
     clear hx gS lS hto ZW
     go_wp2_with (first | (with_reducible refine at_body ?_;refine Hid.out ?_) | (with_reducible refine at_stores (t:=28) ?_;refine wpList_storeStR rfl (.tmp 2) (.tmp 117) rfl R (.int .i64 0) (.int .i64 0) (.int .i64 0) (.int .i64 0) (.bool false) (.slice none 0 0) (.int .i64 0) (.slice none 0 0) (.slice none 0 0) (.slice none 0 0) (.int .i64 0) (.int .i64 0) (.int .i64 0) (.int .i64 0) (.bool false) (.slice none 0 0) (.int .i64 0) (.slice none 0 0) (.slice none 0 0) (.slice none 0 0) rfl rfl HI.out.rb rfl ?_;intro w9 hb9 hown9 hext9;have g9:=(cells_of hb9).1;have l9:=lt_of_heap hb9;have HX9:=zH (hext9 V HI.out.ext HI.out.lo.2.2);clear hb9 hown9 hext9))
     refine zH ?_
     ((try simp only [Exit.inBlock,Exit.then]);refine bodyPost_ret (v:= .tuple #[.agg #[.int .i64 0,.int .i64 0,.int .i64 0,.int .i64 0,.bool false,.slice none 0 0,.int .i64 0,.slice none 0 0,.slice none 0 0,.slice none 0 0],.int .i64 4]) (by simp only [results,Try.results8];go_simp) rfl ?_)
     refine Or.inr ⟨?_,?_,?_⟩
     ·rfl
     ·exact HNO.out
     ·exact HX9.out
    subst he
    clear HQ hpk hen HR HOW hwcap
    replace ht:=zH ht
    have hts:=ht.out
    subst hts
    clear ht
    go_wp2_with fail
    refine (ZC.out _ hto.out.at).mono ?_
    rintro e w13 ⟨rfl,hx⟩
    replace HI:=zH (HI.out.grow hx)
    replace hto:=zH (hto.out.ext hx)
    clear hx gS lS fS gX lX ZC
    have gS:=(cells_of HI.out.sb).1
    have lS:=lt_of_heap HI.out.sb
    go_wp2_with fail
    refine (ZW.out _ hto.out.at).mono ?_
    rintro e w14 ⟨rfl,hx⟩
    replace HI:=zH (HI.out.grow hx)
    replace hto:=zH (hto.out.ext hx)
    clear hx gS lS ZW
    have gS:=(cells_of HI.out.sb).1
    have lS:=lt_of_heap HI.out.sb
    go_wp2_with (first | (with_reducible refine at_body ?_;refine Hid.out ?_) | (with_reducible refine at_stores (t:=28) ?_;refine wpList_storeStR rfl (.tmp 2) (.tmp 118) rfl R (.int .i64 c0) (.int .i64 c1) (.int .i64 c2) (.int .i64 c3) (.bool sn) (.slice wA ws.length wc) (.int .i64 tp) (.slice tA tb.length tc) (.slice fA fr.length fc) (.slice A sl.length cap) (.int .i64 0) (.int .i64 0) (.int .i64 0) (.int .i64 0) (.bool false) (.slice none 0 0) (.int .i64 0) (.slice none 0 0) (.slice none 0 0) (.slice none 0 0) rfl rfl HI.out.rb rfl ?_;intro w9 hb9 hown9 hext9;have g9:=(cells_of hb9).1;have l9:=lt_of_heap hb9;have HX9:=zH (hext9 V HI.out.ext HI.out.lo.2.2);have HO9:=zH (StOwn.mk (s:=⟨c0,c1,c2,c3,sn,wA,ws,wc,tp,tA,tb,tc,fA,fr,fc,A,sl,cap⟩) (hown9 (by decide) hto.out.w) (hown9 (by decide) hto.out.t) (hown9 (by decide) hto.out.f) (hown9 (by decide) hto.out.s));clear hb9 hown9 hext9))
    refine zH ?_
    ((try simp only [Exit.inBlock,Exit.then]);refine bodyPost_ret (v:= .tuple #[.agg #[.int .i64 c0,.int .i64 c1,.int .i64 c2,.int .i64 c3,.bool sn,.slice wA ws.length wc,.int .i64 tp,.slice tA tb.length tc,.slice fA fr.length fc,.slice A sl.length cap],.int .i64 0]) (by simp only [results,Try.results8];go_simp) rfl ?_)
    refine Or.inl ⟨⟨c0,c1,c2,c3,sn,wA,ws,wc,tp,tA,tb,tc,fA,fr,fc,A,sl,cap⟩,?_,?_,?_,?_,?_,?_,?_⟩
    ·rfl
    ·exact HO9.out
    ·exact hbd.out
    ·exact hle.out
    ·exact hkk.out
    ·exact hen2.out
    ·exact HX9.out
  obtain ⟨p,rfl⟩:∃p,k=p+1:=⟨k - 1,by omega⟩
  obtain rfl:b'=false:=by cases b' <;>simp_all
  have G0:decide ((0:Int) < ((p+1:Nat):Int))=true:=by rw [decide_eq_true_eq];omega
  have hp1:p≤1024∧m9+1≤1024:=by have:=HK.out;omega
  go_wp2_with fail
  refine (rtruth_any (by decide) HI.out.rd).mono ?_
  rintro e w2 ⟨u,st2,s2,b2,rfl,hr,hs,ho⟩
  replace HR:=zH (HR.out.only HI.out.rd ho)
  replace HI:=zH (HI.out.only hr ho)
  have HSA:=zH hs
  clear hr hs ho gX lX hq
  have hxE:=(Ext.refl w2).alloc (.cells #[.bool u,.int .i64 0,.int .u64 0] 56)
  have HbE:=zH (blk_new w2 #[.bool u,.int .i64 0,.int .u64 0] 56 w2.heap.size rfl)
  have HLT:=zH HR.out.lt
  have HNE:Hid (V.heap.size≤w2.heap.size∧w2.heap.size≠X∧w2.heap.size≠S∧w2.heap.size≠R):=zH (by
   have h1:=HI.out.ext.size
   have h2:=lt_of_heap HI.out.rd.blk
   have h3:=lt_of_heap HI.out.sb
   have h4:=lt_of_heap HI.out.rb
   omega)
  replace HR:=zH (HR.out.ext hxE)
  replace HI:=zH (HI.out.grow hxE)
  clear hxE
  go_wp2_with fail
  generalize w2.alloc (.cells #[.bool u,.int .i64 0,.int .u64 0] 56)=w2a at*
  generalize w2.heap.size=E at*
  refine (rnumber_any (by decide) HI.out.rd 1099511627776 (by decide)).mono ?_
  rintro e w3 ⟨g,st3,s3,b3,rfl,hg,hr,hs,ho⟩
  replace HbE:=zH ((ho.block E (lt_of_heap HbE.out) (by have:=HNE.out.2.1;simpa using this)).trans HbE.out)
  replace HR:=zH (HR.out.only HI.out.rd ho)
  replace HI:=zH (HI.out.only hr ho)
  have HSB:=zH hs
  clear hr hs ho
  have gE:=(cells_of HbE.out).1
  have fE:=(cells_of HbE.out).2
  have lE:=lt_of_heap HbE.out
  replace HR:=zH (HR.out.setE HLT.out 1 (.int .i64 g))
  replace HI:=zH (HI.out.setE HNE.out 1 (.int .i64 g))
  replace HbE:Hid ((w3.setCell ⟨E,1,none⟩ (.int .i64 g)).heap[E]?=some (.cells #[.bool u,.int .i64 g,.int .u64 0] 56 (0,0))):=zH (blk_set HbE.out (.int .i64 g))
  go_wp2_with fail
  clear gE fE lE
  generalize w3.setCell ⟨E,1,none⟩ (.int .i64 g)=w3a at*
  refine (rword_any (by decide) HI.out.rd).mono ?_
  rintro e w4 ⟨z,st4,s4,b4,rfl,hz,hr,hs,ho⟩
  replace HbE:=zH ((ho.block E (lt_of_heap HbE.out) (by have:=HNE.out.2.1;simpa using this)).trans HbE.out)
  replace HR:=zH (HR.out.only HI.out.rd ho)
  replace HI:=zH (HI.out.only hr ho)
  replace HE:=zH (HE.out.trans (many_step (k:=p) (l:=sl) (Stq.slot HSA.out HSB.out hs)))
  clear hr hs ho HSA HSB
  have gE:=(cells_of HbE.out).1
  have fE:=(cells_of HbE.out).2
  have lE:=lt_of_heap HbE.out
  have gS:=(cells_of HI.out.sb).1
  have lS:=lt_of_heap HI.out.sb
  have hES:E≠S:=HNE.out.2.2.1
  replace HR:=zH (HR.out.setE HLT.out 2 (.int .u64 z))
  replace HI:=zH (HI.out.setE HNE.out 2 (.int .u64 z))
  have HLE:Hid (V.heap.size≤(w4.setCell ⟨E,2,none⟩ (.int .u64 z)).heap.size):=zH HI.out.ext.size
  have HML:Hid (sl.length+1=m9+1):=zH (by rw [HM.out])
  go_wp2_with (at_builtin;refine wpList_app_lit rfl (.tmp 73) (.tmp 75) 26 rfl slotInfo slotCells rfl HR.out.s [(u,(g:Int),(z:Int))] 1 _ rfl (m9+1) 1 HML.out rfl _ rfl (by first | rfl | simp) (by omega) (by unfold maxLen;omega) HLE.out ?_;intro A6 c6 w6 ho6 hg6 ht6;have HI6:=zH ((HI.out.grow ((Ext.refl _).alloc _)).appS (HR.out.s.ext ((Ext.refl _).alloc _)) hg6);have HR6:=zH ((HR.out.ext ((Ext.refl _).alloc _)).app ho6 hg6);have g6:=(cells_of HI6.out.sb).1;have f6:=(cells_of HI6.out.sb).2;have l6:=lt_of_heap HI6.out.sb;clear ho6 hg6 ht6)
  go_roundw
  case rel=>exact ⟨p,m9+1,A6,c6,sl++ [(u,(g:Int),(z:Int))],st4,s4,b4,by go_num,zH (by rw [List.length_append];exact HML.out),zH (by have:=HK.out;omega),zH (fun x hx=>by rcases List.mem_append.1 hx with hx | hx;exact HB.out x hx;simp only [List.mem_singleton]at hx;subst hx;simp only;omega),zH (HI6.out.set 9 _),zH (HR6.out.setS HI6.out.sb 9 _),HE⟩
  case measure=>simp [intOf]
 skip
theorem aget1 (V:World):Calls Try.prog 9 #[.string ⟨#[172,2,120]⟩] V fun e w'=>e= .returned (.tuple #[.int .i64 300,.int .i64 2,.int .i64 0])∧w'=V:=(get_any ⟨#[172,2,120]⟩ (by decide) V).mono fun e w' h=>⟨h.1.trans (by rfl),h.2⟩
theorem aget2 (V:World):Calls Try.prog 9 #[.string ⟨#[128,0]⟩] V fun e w'=>e= .returned (.tuple #[.int .i64 0,.int .i64 0,.int .i64 4])∧w'=V:=(get_any ⟨#[128,0]⟩ (by decide) V).mono fun e w' h=>⟨h.1.trans (by rfl),h.2⟩
theorem aget3 (V:World):Calls Try.prog 9 #[.string ⟨#[128]⟩] V fun e w'=>e= .returned (.tuple #[.int .i64 0,.int .i64 0,.int .i64 14])∧w'=V:=(get_any ⟨#[128]⟩ (by decide) V).mono fun e w' h=>⟨h.1.trans (by rfl),h.2⟩
theorem aput1 (V:World):Calls Try.prog 11 #[.int .i64 300] V fun e w'=>e= .returned (.string ⟨#[172,2]⟩)∧Ext V w':=(pput_any 300 (by omega) V).mono fun e w' h=>⟨h.1.trans (by rfl),h.2⟩
theorem aput2 (V:World):Calls Try.prog 11 #[.int .i64 (-1)] V fun e w'=>e= .returned (.string ⟨#[]⟩)∧Ext V w':=(pput_any (-1) (by omega) V).mono fun e w' h=>⟨h.1.trans (by rfl),h.2⟩
def pwD (wA:Option Addr) (wc:Nat) (tA:Option Addr) (tc:Nat) (fA:Option Addr) (fc:Nat) (sA:Option Addr) (sc:Nat):StD:=⟨4,3,1,3,false,wA,List.replicate 11 0,wc,0,tA,[],tc,fA,[(8,3)],fc,sA,[(false,0,0)],sc⟩
theorem pw_new:newS 4 3 1 3=pwD none 0 none 0 none 0 none 0:=by
 have h:cfgB 4 3 1 3=true:=by decide
 unfold newS
 rw [if_pos h]
 have e1:wordsZ 4 3 1 3=11:=by decide
 have e2:newFr 4 3 1 3= [(8,3)]:=by decide
 rw [e1,e2]
 rfl
theorem pw_ok {wA:Option Addr} {wc:Nat} {tA:Option Addr} {tc:Nat} {fA:Option Addr} {fc:Nat} {sA:Option Addr} {sc:Nat}:pkC (pwD wA wc tA tc fA fc sA sc)=0∧StB (pwD wA wc tA tc fA fc sA sc)∧StLe (pwD wA wc tA tc fA fc sA sc):=by
 refine ⟨?_,⟨?_,?_,?_⟩,⟨?_,?_,?_,?_⟩⟩
 ·have h:=check_new (c0:=4) (c1:=3) (c2:=1) (c3:=3) (by decide)
  have e1:wordsZ 4 3 1 3=11:=by decide
  have e2:newFr 4 3 1 3= [(8,3)]:=by decide
  rw [e1,e2]at h
  exact h
 all_goals simp [pwD]
def pwB:List UInt8:=encS (pwD none 0 none 0 none 0 none 0)
theorem pwB_len:pwB.length=26:=by decide
theorem pw_enc {wA:Option Addr} {wc:Nat} {tA:Option Addr} {tc:Nat} {fA:Option Addr} {fc:Nat} {sA:Option Addr} {sc:Nat}:encS (pwD wA wc tA tc fA fc sA sc)=pwB:=rfl
def RetPw (V:World) (e:Ending) (w':World):Prop:=∃wA wc tA tc fA fc sA sc,e= .returned (.tuple #[.agg #[.int .i64 4,.int .i64 3,.int .i64 1,.int .i64 3,.bool false,.slice wA 11 wc,.int .i64 0,.slice tA 0 tc,.slice fA 1 fc,.slice sA 1 sc],.int .i64 0])∧StOwn V.heap.size w' (pwD wA wc tA tc fA fc sA sc)∧Ext V w'
theorem apnew (V:World):Calls Try.prog 10 #[.agg #[.int .i64 4,.int .i64 3,.int .i64 1,.int .i64 3]] V (RetPw V):=by
 refine (stnew_any 4 3 1 3 V).mono ?_
 rintro e w' ⟨t,he,ho,hv,hx⟩
 rw [pw_new]at hv
 obtain ⟨⟨a1,a2,a3,a4⟩,a5,a6,a7,a8,a9,a10⟩:=eqvS_iff.1 hv
 obtain ⟨c0,c1,c2,c3,sn,wA,ws',wc,top',tA,tb,tc,fA,fr,fc,sA,sl',sc⟩:=t
 simp only [pwD]at a1 a2 a3 a4 a5 a6 a7 a8 a9 a10
 subst a1 a2 a3 a4 a5 a6 a7 a8 a9 a10
 exact ⟨wA,wc,tA,tc,fA,fc,sA,sc,he,ho,hx⟩
theorem apenc {wA:Option Addr} {wc:Nat} {tA:Option Addr} {tc:Nat} {fA:Option Addr} {fc:Nat} {sA:Option Addr} {sc:Nat} {B:Nat} (V:World) (h:StOwn B V (pwD wA wc tA tc fA fc sA sc)):
  Calls Try.prog 6 #[.agg #[.int .i64 4,.int .i64 3,.int .i64 1,.int .i64 3,.bool false,.slice wA 11 wc,.int .i64 0,.slice tA 0 tc,.slice fA 1 fc,.slice sA 1 sc]] V fun e w'=>e= .returned (.tuple #[.string ⟨pwB.toArray⟩,.int .i64 0])∧Ext V w':=by
 have Z:=enc_any (pwD wA wc tA tc fA fc sA sc) 0 pw_ok.1 pw_ok.2.1 pw_ok.2.2 (own_cap0 h.w) V h.at
 rw [if_pos rfl,if_pos rfl,pw_enc]at Z
 exact Z
theorem apdec (V:World):Calls Try.prog 8 #[.string ⟨pwB.toArray⟩] V (RetPw V):=by
 refine (pdec_any pwB (by rw [pwB_len];decide) V).mono ?_
 rintro e w' (⟨t,he,ho,hb, -,hk,hen,hx⟩ | ⟨-,hno, -⟩)
 ·have h1:=(enc_inj (r:= []) (pw_ok (wA:=none) (wc:=0) (tA:=none) (tc:=0) (fA:=none) (fc:=0) (sA:=none) (sc:=0)).1 pw_ok.2.1 hk hb (by rw [List.append_nil,hen];rfl)).1
  obtain ⟨⟨a1,a2,a3,a4⟩,a5,a6,a7,a8,a9,a10⟩:=eqvS_iff.1 h1
  obtain ⟨c0,c1,c2,c3,sn,wA,ws',wc,top',tA,tb,tc,fA,fr,fc,sA,sl',sc⟩:=t
  simp only [pwD]at a1 a2 a3 a4 a5 a6 a7 a8 a9 a10
  subst a1 a2 a3 a4 a5 a6 a7 a8 a9 a10
  exact ⟨wA,wc,tA,tc,fA,fc,sA,sc,he,ho,hx⟩
 ·exact absurd rfl (hno (pwD none 0 none 0 none 0 none 0) pw_ok.1 pw_ok.2.1)
theorem apdecx (V:World):Calls Try.prog 8 #[.string ⟨(pwB++ [120]).toArray⟩] V fun e w'=>e= .returned (.tuple #[.agg #[.int .i64 0,.int .i64 0,.int .i64 0,.int .i64 0,.bool false,.slice none 0 0,.int .i64 0,.slice none 0 0,.slice none 0 0,.slice none 0 0],.int .i64 4])∧Ext V w':=by
 refine (pdec_any (pwB++ [120]) (by rw [List.length_append,pwB_len];decide) V).mono ?_
 rintro e w' (⟨t,he,ho,hb, -,hk,hen,hx⟩ | ⟨he, -,hx⟩)
 ·have h1:=(enc_inj (r:= [120]) (pw_ok (wA:=none) (wc:=0) (tA:=none) (tc:=0) (fA:=none) (fc:=0) (sA:=none) (sc:=0)).1 pw_ok.2.1 hk hb (by rw [hen];rfl)).2
  cases h1
 ·exact ⟨he,hx⟩
theorem apsame {wA:Option Addr} {wc:Nat} {tA:Option Addr} {tc:Nat} {fA:Option Addr} {fc:Nat} {sA:Option Addr} {sc:Nat} {wA2:Option Addr} {wc2:Nat} {tA2:Option Addr} {tc2:Nat} {fA2:Option Addr} {fc2:Nat} {sA2:Option Addr} {sc2:Nat} {B B2:Nat} (V:World) (h:StOwn B V (pwD wA wc tA tc fA fc sA sc)) (h2:StOwn B2 V (pwD wA2 wc2 tA2 tc2 fA2 fc2 sA2 sc2)):
  Calls Try.prog 12 #[.agg #[.int .i64 4,.int .i64 3,.int .i64 1,.int .i64 3,.bool false,.slice wA 11 wc,.int .i64 0,.slice tA 0 tc,.slice fA 1 fc,.slice sA 1 sc],.agg #[.int .i64 4,.int .i64 3,.int .i64 1,.int .i64 3,.bool false,.slice wA2 11 wc2,.int .i64 0,.slice tA2 0 tc2,.slice fA2 1 fc2,.slice sA2 1 sc2]] V fun e w'=>e= .returned (.bool true)∧Ext V w':=by
 have Z:=ssame_any _ _ V h.at h2.at pw_ok.2.2 pw_ok.2.2
 rw [show eqvS (pwD wA wc tA tc fA fc sA sc) (pwD wA2 wc2 tA2 tc2 fA2 fc2 sA2 sc2)=true from by rw [eqvS_iff];simp [pwD]]at Z
 exact Z
theorem ba_app (a b:List UInt8):(⟨a.toArray⟩++⟨b.toArray⟩:ByteArray)=⟨(a++b).toArray⟩:=by
 apply ByteArray.ext
 rw [ByteArray.data_append]
 simp
theorem awake35_any (V:World):Calls Try.prog 5 #[] V fun e w'=>e= .returned (.bool true)∧Ext V w':=by
 go_enter Try.func5,Try.ntmps5
 go_wp2_with fail
 refine (aget1 _).mono ?_
 rintro e w1 ⟨rfl,rfl⟩
 go_wp2_with fail
 refine (aget2 _).mono ?_
 rintro e w1 ⟨rfl,rfl⟩
 go_wp2_with fail
 refine (aget3 _).mono ?_
 rintro e w1 ⟨rfl,rfl⟩
 go_wp2_with fail
 obtain ⟨V,rfl⟩:∃V:World,V=w1:=⟨_,rfl⟩
 refine (apnew _).mono ?_
 rintro e w1 ⟨wA,wc,tA,tc,fA,fc,sA,sc,rfl,ho,hx⟩
 have hxa:=(Ext.refl w1).alloc (.cells #[.int .i64 4,.int .i64 3,.int .i64 1,.int .i64 3,.bool false,.slice wA 11 wc,.int .i64 0,.slice tA 0 tc,.slice fA 1 fc,.slice sA 1 sc] 28)
 have HB:=pers_blk (blk_new w1 #[.int .i64 4,.int .i64 3,.int .i64 1,.int .i64 3,.bool false,.slice wA 11 wc,.int .i64 0,.slice tA 0 tc,.slice fA 1 fc,.slice sA 1 sc] 28 w1.heap.size rfl)
 have HX:=zH (hx.trans hxa)
 have HO:=zH (ho.ext hxa)
 have HL1:=zH (show w1.heap.size < (w1.alloc (.cells #[.int .i64 4,.int .i64 3,.int .i64 1,.int .i64 3,.bool false,.slice wA 11 wc,.int .i64 0,.slice tA 0 tc,.slice fA 1 fc,.slice sA 1 sc] 28)).heap.size by simp)
 clear hx ho hxa
 go_wp2_with fail
 generalize w1.alloc (.cells #[.int .i64 4,.int .i64 3,.int .i64 1,.int .i64 3,.bool false,.slice wA 11 wc,.int .i64 0,.slice tA 0 tc,.slice fA 1 fc,.slice sA 1 sc] 28)=W1 at*
 generalize w1.heap.size=B1 at*
 refine (apenc W1 HO.out).mono ?_
 rintro e w2 ⟨rfl,hx2⟩
 replace HX2:=zH hx2
 clear hx2
 go_wp2_with fail
 refine (apdec w2).mono ?_
 rintro e w3 ⟨wA2,wc2,tA2,tc2,fA2,fc2,sA2,sc2,rfl,ho,hx3⟩
 have hxa:=(Ext.refl w3).alloc (.cells #[.int .i64 4,.int .i64 3,.int .i64 1,.int .i64 3,.bool false,.slice wA2 11 wc2,.int .i64 0,.slice tA2 0 tc2,.slice fA2 1 fc2,.slice sA2 1 sc2] 28)
 have HB2:=pers_blk (blk_new w3 #[.int .i64 4,.int .i64 3,.int .i64 1,.int .i64 3,.bool false,.slice wA2 11 wc2,.int .i64 0,.slice tA2 0 tc2,.slice fA2 1 fc2,.slice sA2 1 sc2] 28 w3.heap.size rfl)
 replace HX2:=zH ((HX2.out.trans hx3).trans hxa)
 have HO2:=zH (ho.ext hxa)
 clear hx3 ho hxa
 have hap:=ba_app pwB [120]
 go_wp2_with fail
 generalize w3.alloc (.cells #[.int .i64 4,.int .i64 3,.int .i64 1,.int .i64 3,.bool false,.slice wA2 11 wc2,.int .i64 0,.slice tA2 0 tc2,.slice fA2 1 fc2,.slice sA2 1 sc2] 28)=W3 at*
 generalize w3.heap.size=B2 at*
 refine (apdecx W3).mono ?_
 rintro e w4 ⟨rfl,hx4⟩
 have hxa:=(Ext.refl w4).alloc (.cells #[.int .i64 0,.int .i64 0,.int .i64 0,.int .i64 0,.bool false,.slice none 0 0,.int .i64 0,.slice none 0 0,.slice none 0 0,.slice none 0 0] 28)
 have HX4:=zH (hx4.trans hxa)
 clear hx4 hxa hap
 go_wp2_with fail
 generalize w4.alloc (.cells #[.int .i64 0,.int .i64 0,.int .i64 0,.int .i64 0,.bool false,.slice none 0 0,.int .i64 0,.slice none 0 0,.slice none 0 0,.slice none 0 0] 28)=W4 at*
 refine (aput1 W4).mono ?_
 rintro e w5 ⟨rfl,hx5⟩
 have HX5:=zH (HX4.out.trans hx5)
 have HXB:=zH (HX2.out.trans HX5.out)
 clear hx5
 have hpl:=pwB_len
 have g1:=(cells_of (HB.at HXB.out)).1
 have g2:=(cells_of (HB2.at HX5.out)).1
 go_wp2_with fail
 refine (apsame w5 (HO.out.ext HXB.out) (HO2.out.ext HX5.out)).mono ?_
 rintro e w6 ⟨rfl,hx6⟩
 have HX6:=zH (HXB.out.trans hx6)
 clear hx6 g1 g2
 go_wp2_with fail
 refine (aput2 w6).mono ?_
 rintro e w7 ⟨rfl,hx7⟩
 have HX7:=zH (HX.out.trans (HX6.out.trans hx7))
 clear hx7
 go_wp2_with fail
 go_ret
 exact ⟨rfl,HX7.out⟩
end Go.Proofs.Ytemmjmplhknemaa
