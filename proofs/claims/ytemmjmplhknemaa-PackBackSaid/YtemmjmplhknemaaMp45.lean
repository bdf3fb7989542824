/- Merged by program (merge.py) out of: PkL, PkM. -/
import Derived.Test.YtemmjmplhknemaaMp44
import Derived.Test.YtemmjmplhknemaaMp33
import Derived.Test.YtemmjmplhknemaaMp9
set_option linter.unusedSimpArgs false
set_option linter.unusedVariables false
set_option maxRecDepth 100000
set_option maxHeartbeats 16000000
namespace Go.Proofs.Ytemmjmplhknemaa
open Go.RowKit Go.Shelf
theorem while_take {p:Int→Bool}:∀l:List Int,l.takeWhile p=l.take (l.takeWhile p).length∧l.dropWhile p=l.drop (l.takeWhile p).length
 | []=>⟨rfl,rfl⟩
 | x::l=>by
  obtain ⟨h1,h2⟩:=while_take (p:=p) l
  rw [List.takeWhile_cons,List.dropWhile_cons]
  split
  ·rw [List.length_cons,List.take_succ_cons,List.drop_succ_cons,←h1,←h2]
   exact ⟨rfl,rfl⟩
  ·exact ⟨rfl,rfl⟩
theorem runZ_t (l:List Int):runZ true l=(l.takeWhile (·==0)).length:=by
 unfold runZ
 congr 2
 funext x
 cases x==0 <;>rfl
theorem runZ_f (l:List Int):runZ false l=(l.takeWhile (· !=0)).length:=by
 unfold runZ
 congr 2
 funext x
 show ((x==0)==false)= !(x==0)
 cases x==0 <;>rfl
theorem runZ_le (z:Bool) (l:List Int):runZ z l≤l.length:=(List.takeWhile_prefix _).length_le
theorem runZ_pos {ys zs:List Int} (hz:ys.drop (runZ true ys)=zs) (h0:zs≠ []):0 < runZ false zs:=by
 have hd:=List.head?_dropWhile_not (·==0) ys
 rw [(while_take (p:=(·==0)) ys).2,←runZ_t,hz]at hd
 rw [runZ_f]
 cases zs with
 | nil=>exact absurd rfl h0
 | cons y t=>
  have hd:(y==0)=false:=hd
  have hd2:(y !=0)=true:=by simpa using hd
  rw [List.takeWhile_cons,hd2]
  simp
theorem wd_step {ys zs:List Int} (h:ys≠ []) (hz:ys.drop (runZ true ys)=zs):wdB (ys.length+1) ys=putB (runZ true ys)++if zs= []then []else putB (runZ false zs)++(zs.take (runZ false zs)).flatMap w8B++wdB ((zs.drop (runZ false zs)).length+1) (zs.drop (runZ false zs)):=by
 have hlen:zs.length≤ys.length:=by rw [←hz,List.length_drop];omega
 have hz0:=hz
 rw [runZ_t]at hz
 rw [wdB,if_neg h,(while_take (p:=(·==0)) ys).2,hz,←runZ_t]
 congr 1
 by_cases h0:zs= []
 ·rw [if_pos h0,if_pos h0]
 rw [if_neg h0,if_neg h0]
 rw [←runZ_f,(while_take (p:=(· !=0)) zs).1,(while_take (p:=(· !=0)) zs).2,←runZ_f]
 have hu:0 < runZ false zs:=runZ_pos hz0 h0
 have hle:=runZ_le false zs
 have h1:0 < zs.length:=List.length_pos_iff.2 h0
 rw [wdB_fuel ys.length ((zs.drop (runZ false zs)).length+1) _ (by rw [List.length_drop];omega) (by omega)]
theorem wdF_len:∀l:List Int,(l.flatMap w8B).length=8*l.length
 | []=>by simp
 | x::l=>by
  have:=wdF_len l
  rw [List.flatMap_cons,List.length_append,List.length_cons,w8_len]
  omega
theorem wdB_len:∀(f:Nat) (l:List Int),(wdB f l).length≤26*l.length
 | 0,l=>by simp [wdB]
 | f+1,l=>by
  unfold wdB
  by_cases h0:l= []
  ·rw [if_pos h0];simp
  rw [if_neg h0]
  have hl:0 < l.length:=List.length_pos_iff.2 h0
  have e1:l.takeWhile (·==0)++l.dropWhile (·==0)=l:=List.takeWhile_append_dropWhile
  have hd:=List.head?_dropWhile_not (·==0) l
  generalize l.takeWhile (·==0)=zs at*
  generalize l.dropWhile (·==0)=ys at*
  have l1:zs.length+ys.length=l.length:=by rw [←e1,List.length_append]
  have hp:=putB_len zs.length
  by_cases hy:ys= []
  ·rw [if_pos hy,List.append_nil];omega
  rw [if_neg hy]
  have hu:0 < (ys.takeWhile (· !=0)).length:=by
   cases ys with
   | nil=>exact absurd rfl hy
   | cons y t=>
    have hd:(y==0)=false:=hd
    have hd2:(y !=0)=true:=by simpa using hd
    rw [List.takeWhile_cons,hd2]
    simp
  have e2:ys.takeWhile (· !=0)++ys.dropWhile (· !=0)=ys:=List.takeWhile_append_dropWhile
  have l2:(ys.takeWhile (· !=0)).length+(ys.dropWhile (· !=0)).length=ys.length:=by rw [←List.length_append,e2]
  have hq:=putB_len (ys.takeWhile (· !=0)).length
  have h3:=wdF_len (ys.takeWhile (· !=0))
  have h4:=wdB_len f (ys.dropWhile (· !=0))
  rw [List.length_append,List.length_append,List.length_append]
  omega
def lenV:Value→Nat
 | .slice _ n _=>n
 | _=>0
theorem wwords_any {W V:World} {X:Nat} {A:Option Addr} {cap:Nat} {d:List UInt8} (h:WrI W X A cap d V) (hd:d.length≤10000000) (lA:Option Addr) (lc:Nat) (ws:List Int) (n:Nat) (hn:ws.length=n) (hc:n≤lc)
  (hS:RowAt 1 u64C W lA ws) (hl:n≤98304) (hb:∀z∈ws,0≤z∧z < 18446744073709551616):
  Calls Try.prog 37 #[.pointer (some ⟨X,0,none⟩),.slice lA n lc] V fun e w'=>e= .returned (.tuple #[])∧∃A' cap',WrI W X A' cap' (d++wdB (ws.length+1) ws) w':=by
 have HI0:=zH h
 have HS0:=zH hS
 have HN0:=zH hn
 have HB0:=zH hb
 obtain ⟨T,hT⟩:∃T,d++wdB (ws.length+1) ws=T:=⟨_,rfl⟩
 have hTL:T.length≤15000000:=by
  rw [←hT,List.length_append]
  have:=wdB_len (ws.length+1) ws
  omega
 have HT0:=zH hT
 rw [hT]
 clear h hS hn hb hT
 go_enter Try.func37,Try.ntmps37
 go_wp2_with fail
 go_loopw [1] (fun v wr=>∃(ys:List Int) (m:Nat) (B:Option Addr) (c:Nat) (A':Option Addr) (c':Nat) (D:List UInt8),v= .slice B m c∧m≤c∧m≤98304∧Hid (ys.length=m)∧Hid (RowAt 1 u64C W B ys)∧Hid (∀z∈ys,0≤z∧z < 18446744073709551616)∧Hid (D++wdB (ys.length+1) ys=T)∧Hid (WrI W X A' c' D wr)) (fun v _=>lenV v)
 case atStart=>exact ⟨ws,n,lA,lc,A,cap,d,rfl,hc,hl,HN0,HS0,HB0,HT0,HI0⟩
 case round=>
  obtain ⟨ys,m,B,c,A',c',D,rfl,hmc,hm,HN,HS,HB,HT,HI⟩:=hrel
  by_cases h0:m=0
  ·subst h0
   have HF:Hid (WrI W X A' c' T wr):=zH (by have:=HI.out;rw [←HT.out,List.eq_nil_of_length_eq_zero HN.out];simpa [wdB]using this)
   clear HI
   go_wp2_with fail
   go_returns
   exact ⟨rfl,_,_,HF.out⟩
  obtain ⟨b,off,rfl, -⟩:=HS.out.get (by rw [HN.out];omega)
  have hne:ys≠ []:=fun e=>by rw [e]at HN;exact h0 HN.out.symm
  have G0:decide ((0:Int) < (m:Int))=true:=by rw [decide_eq_true_eq];omega
  obtain ⟨zs,hzs⟩:∃zs,ys.drop (runZ true ys)=zs:=⟨_,rfl⟩
  have HST:=zH (wd_step hne hzs)
  have HQP:=zH (runZ_pos hzs)
  have hzl:zs.length=m - runZ true ys:=by rw [←hzs,List.length_drop,HN.out]
  have hle:=runZ_le true ys
  rw [HN.out]at hle
  have hDT:D.length≤15000000:=by have:=HT.out;rw [←this,List.length_append]at hTL;omega
  go_wp2_with fail
  have Z:=run_any _ c ys true wr (RowAt.ext HS.out HI.out.ext) (by rw [HN.out];omega)
  rw [HN.out]at Z
  refine Z.mono ?_
  clear Z
  rintro e w1 ⟨rfl,rfl⟩
  have HRZ:Hid (runZ true ys=runZ true ys):=zH rfl
  generalize runZ true ys=r at*
  go_wp2_with fail
  refine (wnumbers_any (HI.out.grow ((Ext.refl _).alloc _)).toJ (by omega) [(r:Int)] 1 rfl (blk_new _ _ _ _ rfl) (by decide) (by decide) (by intro x hx;simp at hx;omega)).mono ?_
  rintro e w2 ⟨rfl, -,A2,c2,h2⟩
  have HI2:Hid (WrI W X A2 c2 (D++putB r) w2):=zH (by simpa using h2)
  clear h2 HI
  have hpr:=putB_len r
  by_cases hz:m - r=0
  ·have G1:(((m - r:Nat):Int)==0)=true:=by rw [beq_iff_eq];omega
   have HF:Hid (WrI W X A2 c2 T w2):=zH (by
    have h1:=HI2.out
    have h2:=HT.out
    rw [HST.out,if_pos (List.eq_nil_of_length_eq_zero (by omega)),List.append_nil]at h2
    rwa [h2]at h1)
   go_wp2_with fail
   all_goals
    go_returns
    exact ⟨rfl,_,_,HF.out⟩
  have G1:(((m - r:Nat):Int)==0)=false:=by rw [beq_eq_false_iff_ne];omega
  have hcr:¬c=r:=by omega
  have HZ:Hid (RowAt 1 u64C W (some ⟨b,off+r,none⟩) zs):=zH (by have:=HS.out.drop r;rwa [hzs,Nat.mul_one]at this)
  have HBz:Hid (∀z∈zs,0≤z∧z < 18446744073709551616):=zH (fun z hz=>HB.out z (by rw [←hzs]at hz;exact List.mem_of_mem_drop hz))
  have HT2:Hid (D++putB r++(putB (runZ false zs)++(zs.take (runZ false zs)).flatMap w8B++wdB ((zs.drop (runZ false zs)).length+1) (zs.drop (runZ false zs)))=T):=zH (by
   have h2:=HT.out
   rwa [HST.out,if_neg (fun e=>by rw [e]at hzl;simp at hzl;omega),←List.append_assoc]at h2)
  have hm1c:m - r≤c - r:=by omega
  have hqp:=HQP.out (fun e=>by rw [e]at hzl;simp at hzl;omega)
  have hm1:m - r≤98304:=by omega
  clear HS HB HT HST hzs hne
  go_wp2_with fail
  generalize hmr:m - r=m1 at*
  generalize hcr1:c - r=c1 at*
  replace hmr:=zH hmr
  replace hcr1:=zH hcr1
  generalize off+r=off1 at*
  have hle2:=runZ_le false zs
  have Z:=run_any _ c1 zs false w2 (RowAt.ext HZ.out HI2.out.ext) (by omega)
  rw [hzl]at Z
  refine Z.mono ?_
  clear Z
  rintro e w3 ⟨rfl,rfl⟩
  generalize runZ false zs=q at*
  replace hzl:=zH hzl
  rw [hzl.out]at hle2
  go_wp2_with fail
  refine (wnumbers_any (HI2.out.grow ((Ext.refl _).alloc _)).toJ (by rw [List.length_append];omega) [(q:Int)] 1 rfl (blk_new _ _ _ _ rfl) (by decide) (by decide) (by intro x hx;simp at hx;omega)).mono ?_
  rintro e w4 ⟨rfl, -,A4,c4,h4⟩
  have HI4:Hid (WrI W X A4 c4 (D++putB r++putB q) w4):=zH (by simpa using h4)
  clear h4 HI2
  have hpq:=putB_len q
  have hDL:(D++putB r++putB q).length≤15000018:=by rw [List.length_append,List.length_append];omega
  generalize hD4:D++putB r++putB q=D4 at*
  have HT4:Hid (D4++(zs.take q).flatMap w8B++wdB ((zs.drop q).length+1) (zs.drop q)=T):=zH (by
   have h2:=HT2.out
   rw [←hD4]
   simpa only [List.append_assoc]using h2)
  clear HT2 hD4 HRZ
  go_wp2_with fail
  go_loopw [32] (fun i wr=>∃(k:Nat) (A':Option Addr) (c':Nat),k≤q∧i= .int .i64 k∧Hid (WrI W X A' c' (D4++(zs.take k).flatMap w8B) wr)) (fun i _=>q - (intOf i).toNat)
  case atStart=>exact ⟨0,A4,c4,by omega,rfl,zH (by simpa using HI4.out)⟩
  case round=>
   obtain ⟨k,A5,c5,hk,rfl,HI⟩:=hrel
   by_cases hlt:k < q
   rotate_left
   ·obtain rfl:k=q:=by omega
    have HLd:Hid ((zs.drop k).length=m1 - k):=zH (by rw [List.length_drop,hzl.out])
    have HBd:Hid (∀z∈zs.drop k,0≤z∧z < 18446744073709551616):=zH (fun z hz=>HBz.out z (List.mem_of_mem_drop hz))
    have hm1:m1 - k≤98304:=by omega
    have hmm:m1 - k≤c1 - k:=by omega
    by_cases hcq:c1=k
    ·have HZd:Hid (RowAt 1 u64C W (some ⟨b,off1,none⟩) (zs.drop k)):=zH (by rw [List.eq_nil_of_length_eq_zero (show (zs.drop k).length=0 by rw [HLd.out];omega)];exact RowAt.none _ _ _)
     go_wp2_with fail
     go_roundw
     case rel=>exact ⟨zs.drop k,_,_,_,A5,c5,_,rfl,by omega,hm1,HLd,HZd,HBd,HT4,HI⟩
     case measure=>show m1 - k < m;have:=hmr.out;omega
    ·have HZd:Hid (RowAt 1 u64C W (some ⟨b,off1+k,none⟩) (zs.drop k)):=zH (by have:=HZ.out.drop k;rwa [Nat.mul_one]at this)
     go_wp2_with fail
     go_roundw
     case rel=>exact ⟨zs.drop k,_,_,_,A5,c5,_,rfl,by omega,hm1,HLd,HZd,HBd,HT4,HI⟩
     case measure=>show m1 - k < m;have:=hmr.out;omega
   have hkz:k < zs.length:=by rw [hzl.out];omega
   have hxb:=HBz.out zs[k] (List.getElem_mem hkz)
   have HTk:=zH (flat_take hkz w8B)
   obtain ⟨b2,off2,hbo,hcc⟩:=RowAt.get (RowAt.ext HZ.out HI.out.ext) (by omega)
   simp only [Option.some.injEq,Addr.mk.injEq,and_true]at hbo
   obtain ⟨rfl,rfl⟩:=hbo
   have c0:=hcc k zs[k] (List.getElem?_eq_getElem hkz) 0 _ rfl
   simp only [Nat.mul_one,Nat.add_zero]at c0
   generalize zs[k]=x at*
   obtain ⟨z,rfl⟩:=Int.eq_ofNat_of_zero_le hxb.1
   have hfl:=wdF_len (zs.take k)
   rw [List.length_take]at hfl
   have hDL5:(D4++(zs.take k).flatMap w8B).length≤100000000:=by rw [List.length_append];omega
   clear hfl hcc hkz HT4
   have l0:b < wr.heap.size:=by
    have:=World.block_lt_of_cell? wr _ c0
    simpa using this
   generalize hD:(D4++(zs.take k).flatMap w8B)=D5 at*
   have HD:=zH hD
   clear hD
   go_wp2_with fail
   refine (wword_any HI.out hDL5 z (by omega)).mono ?_
   rintro e w6 ⟨rfl, -,A6,c6,h6⟩
   have HI6:=zH h6
   clear h6
   go_wp2_with fail
   go_roundw
   case rel=>exact ⟨k+1,A6,c6,by omega,by go_num,by rw [HTk.out,←List.append_assoc,HD.out];exact HI6⟩
   case measure=>simp [intOf];omega
theorem spB_len (l:List (Int×Int)):(spB l).length≤9+18*l.length:=by
 unfold spB
 have h1:=putB_len l.length
 have h2:=spF_len l
 rw [List.length_append]
 omega
theorem slF_len:∀l:List (Bool×Int×Int),(l.flatMap fun x=>tfB x.1++putB x.2.1++w8B x.2.2).length≤18*l.length
 | []=>by simp
 | x::l=>by
  have:=slF_len l
  have h1:=putB_len x.2.1
  have h2:(tfB x.1).length=1:=rfl
  have h3:=w8_len (z:=x.2.2)
  rw [List.flatMap_cons,List.length_append,List.length_append,List.length_append,List.length_cons]
  omega
theorem len_up {d e:List UInt8} {n m k:Nat} (h:d.length≤n) (he:e.length≤m) (hk:n+m≤k):(d++e).length≤k:=by
 rw [List.length_append]
 omega
theorem write_any (s:StD) (hk:pkC s=0) (hb:StB s) (hwc:s.ws.length≤s.wc) (V:World) (h:StAt V s):Calls Try.prog 14 #[.agg #[.int .i64 s.c0,.int .i64 s.c1,.int .i64 s.c2,.int .i64 s.c3,.bool s.snd,.slice s.wA s.ws.length s.wc,.int .i64 s.top,.slice s.tA s.tb.length s.tc,.slice s.fA s.fr.length s.fc,.slice s.sA s.sl.length s.sc]] V fun e w'=>e= .returned (.string ⟨(encS s).toArray⟩)∧Ext V w':=by
 have HK:=PkB.of hk
 obtain ⟨⟨⟨b0,b0'⟩,⟨b1,b1'⟩,⟨b2,b2'⟩,b3,b3'⟩,⟨bt,bt'⟩,tl,fl,tb,fr,sl,se, -,wl⟩:=HK
 have HENC:Hid (encS s=mgB++([s.c0,s.c1,s.c2,s.c3].flatMap putB)++tfB s.snd++([s.top].flatMap putB)++spB s.tb++spB s.fr++([(s.sl.length:Int)].flatMap putB)++(s.sl.flatMap fun x=>tfB x.1++putB x.2.1++w8B x.2.2)++wdB (s.ws.length+1) s.ws):=zH (by
  unfold encS hdS slB
  simp only [List.flatMap_cons,List.flatMap_nil,List.append_nil,List.append_assoc])
 obtain ⟨T,hT⟩:∃T,encS s=T:=⟨_,rfl⟩
 rw [hT]at HENC⊢
 obtain ⟨c0,c1,c2,c3,sn,wA,ws,wc,top,tA,tbl,tc,fA,frl,fc,sA,sll,sc⟩:=s
 obtain ⟨wb,tbb,sb⟩:=hb
 obtain ⟨hw,ht,hf,hs⟩:=h
 simp only at*
 clear hT hk
 have HW:=pers_row hw
 have HTB:=pers_row ht
 have HFR:=pers_row hf
 have HSL:=pers_row hs
 clear hw ht hf hs
 obtain ⟨nw,hnw⟩:∃n,ws.length=n:=⟨_,rfl⟩
 obtain ⟨nt,hnt⟩:∃n,tbl.length=n:=⟨_,rfl⟩
 obtain ⟨nf,hnf⟩:∃n,frl.length=n:=⟨_,rfl⟩
 obtain ⟨ns,hns⟩:∃n,sll.length=n:=⟨_,rfl⟩
 rw [hns]at HENC
 rw [hnw,hnt,hnf,hns]
 rw [hnw]at hwc wl
 rw [hnt]at tl
 rw [hnf]at fl
 rw [hns]at sl
 replace hnw:=zH hnw
 replace hnt:=zH hnt
 replace hnf:=zH hnf
 replace hns:=zH hns
 have hx0:=(Ext.refl V).alloc (.cells #[.int .i64 c0,.int .i64 c1,.int .i64 c2,.int .i64 c3,.bool sn,.slice wA nw wc,.int .i64 top,.slice tA nt tc,.slice fA nf fc,.slice sA ns sc] 28)
 have hB0:=blk_new V #[.int .i64 c0,.int .i64 c1,.int .i64 c2,.int .i64 c3,.bool sn,.slice wA nw wc,.int .i64 top,.slice tA nt tc,.slice fA nf fc,.slice sA ns sc] 28 V.heap.size rfl
 have kc:=fun (w:World) (C:Array Value) (n c g:Nat) (hg:g=w.heap.size)=>Go.Joins.run_convert_bytes_const_at (P:=Try.prog) w 67 5 C n c g hg Try.underlying67 Try.underlying5
 replace tb:=zH tb
 replace fr:=zH fr
 replace se:=zH se
 replace wb:=zH wb
 replace sb:=zH sb
 clear tbb
 go_enter Try.func14,Try.ntmps14
 go_wp2_with fail
 replace HW:=HW.re hx0
 replace HTB:=HTB.re hx0
 replace HFR:=HFR.re hx0
 replace HSL:=HSL.re hx0
 replace hx0:=zH hx0
 have hsz:(V.alloc (.cells #[.int .i64 c0,.int .i64 c1,.int .i64 c2,.int .i64 c3,.bool sn,.slice wA nw wc,.int .i64 top,.slice tA nt tc,.slice fA nf fc,.slice sA ns sc] 28)).heap.size=V.heap.size+1:=by simp
 generalize V.alloc (.cells #[.int .i64 c0,.int .i64 c1,.int .i64 c2,.int .i64 c3,.bool sn,.slice wA nw wc,.int .i64 top,.slice tA nt tc,.slice fA nf fc,.slice sA ns sc] 28)=W at*
 generalize hH:V.heap.size=B at*
 replace hH:=zH hH
 have HB:=pers_blk hB0
 have hBW:B < W.heap.size:=by omega
 have kd:=kc W #[.int .u8 84,.int .u8 82,.int .u8 73,.int .u8 1] 4 4 (B+1) (by omega)
 clear kc
 go_wp2_with fail
 have HI:Hid (WrJ W (B+2) (some ⟨B+1,0,none⟩) 4 mgB ((W.alloc (.cells #[.int .u8 84,.int .u8 82,.int .u8 73,.int .u8 1] 5 (4,5))).alloc (.cells #[.slice (some ⟨B+1,0,none⟩) 4 4] 74))):=zH ⟨blk_new _ _ _ _ (by simp;omega),.inr ⟨B+1,(4,5),rfl,by omega,rfl,rfl,(((Ext.refl _).alloc _).block (by simp;omega)).trans (by rw [←hsz];exact heap_alloc_new W _)⟩,((Ext.refl W).alloc _).alloc _,by omega⟩
 have hd:mgB.length≤4:=Nat.le_refl _
 have hn4:([c0,c1,c2,c3].flatMap putB).length≤36:=by have h0:=putB_len c0;have h1:=putB_len c1;have h2:=putB_len c2;have h3:=putB_len c3;simp only [List.flatMap_cons,List.flatMap_nil,List.length_append,List.length_nil];omega
 have hn1:∀z:Int,([z].flatMap putB).length≤9:=fun z=>by have h0:=putB_len z;simp only [List.flatMap_cons,List.flatMap_nil,List.length_append,List.length_nil];omega
 refine (wnumbers_any (HI.out.grow ((Ext.refl _).alloc _)) (by decide) [c0,c1,c2,c3] 4 rfl (blk_new _ _ _ _ (by simp;omega)) (by decide) (by decide) (by intro x hx;simp only [List.mem_cons,List.not_mem_nil,or_false]at hx;omega)).mono ?_
 rintro e w0 ⟨rfl, -,A0,q0,h0⟩
 have hl0:=len_up (m:=36) (k:=40) (e:= [c0,c1,c2,c3].flatMap putB) hd (hn4) (by omega)
 generalize hD0:mgB++ [c0,c1,c2,c3].flatMap putB=D0 at h0 hl0
 have HD0:=zH hD0
 have HI0:=zH h0
 have g0:=(cells_of (HB.at h0.ext)).1
 have hb0:B < w0.heap.size:=by have:=h0.ext.size;omega
 clear h0 hD0
 go_wp2_with fail
 clear HI kd hd hn4
 refine (wtruth_any HI0.out (by omega) sn).mono ?_
 rintro e w1 ⟨rfl, -,A1,q1,h1⟩
 have hl1:=len_up (m:=1) (k:=41) (e:=tfB sn) hl0 (Nat.le_refl 1) (by omega)
 generalize hD1:D0++tfB sn=D1 at h1 hl1
 have HD1:=zH hD1
 have HI1:=zH h1
 have g1:=(cells_of (HB.at h1.ext)).1
 have hb1:B < w1.heap.size:=by have:=h1.ext.size;omega
 clear h1 hD1 HI0 g0 hb0 hl0
 go_wp2_with fail
 refine (wnumbers_any (HI1.out.grow ((Ext.refl _).alloc _)).toJ (by omega) [top] 1 rfl (blk_new _ _ _ _ rfl) (by decide) (by decide) (by intro x hx;simp only [List.mem_cons,List.not_mem_nil,or_false]at hx;omega)).mono ?_
 rintro e w2 ⟨rfl, -,A2,q2,h2⟩
 have hl2:=len_up (m:=9) (k:=50) (e:= [top].flatMap putB) hl1 (hn1 top) (by omega)
 generalize hD2:D1++ [top].flatMap putB=D2 at h2 hl2
 have HD2:=zH hD2
 have HI2:=zH h2
 have g2:=(cells_of (HB.at h2.ext)).1
 have hb2:B < w2.heap.size:=by have:=h2.ext.size;omega
 clear h2 hD2 HI1 g1 hb1 hl1
 go_wp2_with fail
 refine (wspans_any HI2.out (by omega) tA tc tbl nt hnt.out HTB.here (by omega) (fun x hx=>by have:=tb.out x hx;omega)).mono ?_
 rintro e w3 ⟨rfl,A3,q3,h3⟩
 have hl3:=len_up (m:=599950) (k:=600000) (e:=spB tbl) hl2 (by have:=spB_len tbl;rw [hnt.out]at this;omega) (by omega)
 generalize hD3:D2++spB tbl=D3 at h3 hl3
 have HD3:=zH hD3
 have HI3:=zH h3
 have g3:=(cells_of (HB.at h3.ext)).1
 have hb3:B < w3.heap.size:=by have:=h3.ext.size;omega
 clear h3 hD3 HI2 g2 hb2 hl2
 go_wp2_with fail
 refine (wspans_any HI3.out (by omega) fA fc frl nf hnf.out HFR.here (by omega) (fun x hx=>by have:=fr.out x hx;omega)).mono ?_
 rintro e w4 ⟨rfl,A4,q4,h4⟩
 have hl4:=len_up (m:=600000) (k:=1200000) (e:=spB frl) hl3 (by have:=spB_len frl;rw [hnf.out]at this;omega) (by omega)
 generalize hD4:D3++spB frl=D4 at h4 hl4
 have HD4:=zH hD4
 have HI4:=zH h4
 have g4:=(cells_of (HB.at h4.ext)).1
 have hb4:B < w4.heap.size:=by have:=h4.ext.size;omega
 clear h4 hD4 HI3 g3 hb3 hl3
 go_wp2_with fail
 refine (wnumbers_any (HI4.out.grow ((Ext.refl _).alloc _)).toJ (by omega) [(ns:Int)] 1 rfl (blk_new _ _ _ _ rfl) (by decide) (by decide) (by intro x hx;simp only [List.mem_cons,List.not_mem_nil,or_false]at hx;omega)).mono ?_
 rintro e w5 ⟨rfl, -,A5,q5,h5⟩
 have hl5:=len_up (m:=9) (k:=1200009) (e:= [(ns:Int)].flatMap putB) hl4 (hn1 ns) (by omega)
 generalize hD5:D4++ [(ns:Int)].flatMap putB=D5 at h5 hl5
 have HD5:=zH hD5
 have HI5:=zH h5
 have g5:=(cells_of (HB.at h5.ext)).1
 have hb5:B < w5.heap.size:=by have:=h5.ext.size;omega
 clear h5 hD5 HI4 g4 hb4 hl4
 go_wp2_with fail
 go_loopw [51] (fun i wr=>∃(k:Nat) (A':Option Addr) (c':Nat),k≤ns∧i= .int .i64 k∧Hid (WrI W (B+2) A' c' (D5++(sll.take k).flatMap fun x=>tfB x.1++putB x.2.1++w8B x.2.2) wr)) (fun i _=>ns - (intOf i).toNat)
 case atStart=>exact ⟨0,A5,q5,by omega,rfl,zH (by simpa using HI5.out)⟩
 case round=>
  clear g5 hb5 HI5
  obtain ⟨k,A',c',hk,rfl,HI⟩:=hrel
  have g0:=(cells_of (HB.at HI.out.ext)).1
  have hsE:=HI.out.ext.size
  have hfl:=slF_len (sll.take k)
  rw [List.length_take]at hfl
  have hDL:(D5++(sll.take k).flatMap fun x=>tfB x.1++putB x.2.1++w8B x.2.2).length≤1300000:=by rw [List.length_append];omega
  clear hfl
  by_cases hlt:k < ns
  rotate_left
  ·obtain rfl:k=ns:=by omega
   rw [List.take_of_length_le (Nat.le_of_eq hns.out)]at HI hDL
   generalize hD6:(D5++sll.flatMap fun x=>tfB x.1++putB x.2.1++w8B x.2.2)=D6 at*
   have HD6:=zH hD6
   clear hD6
   go_wp2_with fail
   refine (wwords_any HI.out (by omega) wA wc ws nw hnw.out hwc HW.here wl wb.out).mono ?_
   rintro e w7 ⟨rfl,A7,q7,h7⟩
   have HT:Hid (D6++wdB (ws.length+1) ws=T):=zH (by rw [HENC.out,HD0.out,HD1.out,HD2.out,HD3.out,HD4.out,HD5.out,HD6.out])
   rw [HT.out]at h7
   have hcv:=own_str rfl h7.own (by
    intro e
    have h8:=HENC.out
    rw [e]at h8
    have h9:=congrArg List.length h8
    simp only [List.length_append,List.length_nil]at h9
    have:mgB.length=4:=rfl
    omega)
   have g7:=(cells_of h7.blk).1
   have hl7:=lt_of_heap h7.blk
   have HX7:=zH (hx0.out.trans h7.ext)
   clear h7 g0
   go_wp2_with fail
   go_ret
   exact ⟨rfl,HX7.out⟩
  have hks:k < sll.length:=by rw [hns.out];omega
  obtain ⟨b,off,hbo,hcc⟩:=RowAt.get (HSL.at HI.out.ext) (by omega)
  obtain ⟨e0,e1,e2⟩:=slots_cell hcc hks
  have hgx:sll.getD k (false,0,0)=sll[k]:=by rw [List.getD_eq_getElem?_getD,List.getElem?_eq_getElem hks];rfl
  rw [hgx]at e0 e1 e2
  have HTk:=zH (flat_take hks fun x:Bool×Int×Int=>tfB x.1++putB x.2.1++w8B x.2.2)
  have hxe:=se.out sll[k] (List.getElem_mem hks)
  have hxw:=sb.out sll[k] (List.getElem_mem hks)
  generalize sll[k]=x at*
  obtain ⟨xu,xg,xw⟩:=x
  obtain ⟨z,rfl⟩:=Int.eq_ofNat_of_zero_le hxw.1
  simp only at hxe hxw e0 e1 e2
  have l0:b < wr.heap.size:=by
   have:=World.block_lt_of_cell? wr _ e0
   simpa using this
  obtain rfl:=hbo
  clear hcc hgx
  clear g0
  have hlE:wr.heap.size < (wr.alloc (.cells #[.bool xu,.int .i64 xg,.int .u64 z] 56)).heap.size:=by simp
  have hxE:=(Ext.refl wr).alloc (.cells #[.bool xu,.int .i64 xg,.int .u64 z] 56)
  have hbE:=blk_new wr #[.bool xu,.int .i64 xg,.int .u64 z] 56 wr.heap.size rfl
  have HIE:=zH (HI.out.grow hxE)
  have HBE:=zH hbE
  clear hbE hxE
  generalize hD6:(D5++(sll.take k).flatMap fun x=>tfB x.1++putB x.2.1++w8B x.2.2)=D6 at*
  have HD6:=zH hD6
  clear hD6 HI
  go_wp2_with fail
  refine (wtruth_any HIE.out (by omega) xu).mono ?_
  rintro e w7 ⟨rfl,hk7,A7,q7,h7⟩
  have hb7:=hk7 _ _ _ HBE.out (by decide) (by decide)
  have hl7:=len_up (m:=1) (k:=1300001) (e:=tfB xu) hDL (Nat.le_refl 1) (by omega)
  have g7:=(cells_of hb7).1
  have j7:=lt_of_heap hb7
  replace hb7:=zH hb7
  have HI7:=zH h7
  clear h7 hk7 HIE HBE hlE
  go_wp2_with fail
  refine (wnumbers_any (HI7.out.grow ((Ext.refl _).alloc _)).toJ (by omega) [xg] 1 rfl (blk_new _ _ _ _ rfl) (by decide) (by decide) (by intro x hx;simp only [List.mem_cons,List.not_mem_nil,or_false]at hx;omega)).mono ?_
  rintro e w8 ⟨rfl,hk8,A8,q8,h8⟩
  have hb8:=hk8 _ _ _ (((Ext.refl w7).alloc _).block (lt_of_heap hb7.out) |>.trans hb7.out) (by decide) (by decide)
  have hl8:=len_up (m:=9) (k:=1300010) (e:= [xg].flatMap putB) hl7 (hn1 xg) (by omega)
  have g8:=(cells_of hb8).1
  have j8:=lt_of_heap hb8
  have HI8:=zH h8
  clear h8 hk8 hb8 hb7 g7 j7 HI7
  go_wp2_with fail
  refine (wword_any HI8.out (by omega) z (by omega)).mono ?_
  rintro e w9 ⟨rfl, -,A9,q9,h9⟩
  have HI9:=zH h9
  clear h9 g8 j8 HI8
  go_wp2_with fail
  go_roundw
  case rel=>exact ⟨k+1,A9,q9,by omega,by go_num,zH (by
   have h:=HI9.out
   rw [HTk.out,←List.append_assoc,HD6.out]
   simpa only [List.flatMap_cons,List.flatMap_nil,List.append_nil,List.append_assoc]using h)⟩
  case measure=>simp [intOf];omega
theorem enc_any (s:StD) (k:Int) (hk:pkC s=k) (hb:StB s) (hl:StLe s) (hwc:s.ws.length≤s.wc) (V:World) (h:StAt V s):Calls Try.prog 6 #[.agg #[.int .i64 s.c0,.int .i64 s.c1,.int .i64 s.c2,.int .i64 s.c3,.bool s.snd,.slice s.wA s.ws.length s.wc,.int .i64 s.top,.slice s.tA s.tb.length s.tc,.slice s.fA s.fr.length s.fc,.slice s.sA s.sl.length s.sc]] V fun e w'=>e= .returned (.tuple #[.string ⟨(if k=0 then encS s else []).toArray⟩,.int .i64 (if k=0 then 0 else 4)])∧Ext V w':=by
 have hx0:=(Ext.refl V).alloc (.cells #[.int .i64 s.c0,.int .i64 s.c1,.int .i64 s.c2,.int .i64 s.c3,.bool s.snd,.slice s.wA s.ws.length s.wc,.int .i64 s.top,.slice s.tA s.tb.length s.tc,.slice s.fA s.fr.length s.fc,.slice s.sA s.sl.length s.sc] 28)
 have hB:=pers_blk (blk_new V #[.int .i64 s.c0,.int .i64 s.c1,.int .i64 s.c2,.int .i64 s.c3,.bool s.snd,.slice s.wA s.ws.length s.wc,.int .i64 s.top,.slice s.tA s.tb.length s.tc,.slice s.fA s.fr.length s.fc,.slice s.sA s.sl.length s.sc] 28 V.heap.size rfl)
 have ZC:=zH (fun W:World=>fun hW:Ext V W=>stcheck_s s k hk W (h.ext hW) hl hb)
 by_cases hz:k=0
 ·rw [if_pos hz,if_pos hz]
  subst hz
  have ZW:=zH (fun W:World=>fun hW:Ext V W=>write_any s hk hb hwc W (h.ext hW))
  clear hk h
  obtain ⟨c0,c1,c2,c3,sn,wA,ws,wc,top,tA,tb,tc,fA,fr,fc,sA,sl,sc⟩:=s
  simp only at*
  go_enter Try.func6,Try.ntmps6
  go_wp2_with fail
  refine (ZC.out _ hx0).mono ?_
  rintro e w1 ⟨rfl,hx1⟩
  have g1:=(cells_of (hB.at hx1)).1
  go_wp2_with fail
  refine (ZW.out _ (hx0.trans hx1)).mono ?_
  rintro e w2 ⟨rfl,hx2⟩
  have HX:=zH ((hx0.trans hx1).trans hx2)
  clear hx2
  go_wp2_with fail
  go_returns
  exact ⟨rfl,HX.out⟩
 ·rw [if_neg hz,if_neg hz]
  have G0:(k !=0)=true:=by simpa using hz
  clear hk h
  obtain ⟨c0,c1,c2,c3,sn,wA,ws,wc,top,tA,tb,tc,fA,fr,fc,sA,sl,sc⟩:=s
  simp only at*
  go_enter Try.func6,Try.ntmps6
  go_wp2_with fail
  refine (ZC.out _ hx0).mono ?_
  rintro e w1 ⟨rfl,hx1⟩
  have HX:=zH (hx0.trans hx1)
  go_wp2_with fail
  go_returns
  exact ⟨rfl,HX.out⟩
end Go.Proofs.Ytemmjmplhknemaa
