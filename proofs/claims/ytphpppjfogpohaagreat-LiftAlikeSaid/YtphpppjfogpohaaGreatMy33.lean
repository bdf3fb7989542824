/- Merged by program (merge.py) out of: GraJ. -/
import Derived.Test.YtphpppjfogpohaaGreatMy0
import Derived.Deep.Cut
import Derived.Test.YtphpppjfogpohaaGreatMy12
set_option linter.unusedSimpArgs false
set_option linter.unusedVariables false
set_option maxRecDepth 100000
set_option maxHeartbeats 16000000
namespace Go.Proofs.YtphpppjfogpohaaGreat
open Go.RowKit Go.Shelf
attribute [local go_sem] Oper.semAt_some
def ei (ns:List NodeD):List (Int×Int):=ns.flatMap (·.fields)
def allV (ns:List NodeD) (rs:List (Int×Int)):List (Int×Int):=ei ns++rs
theorem l9 {ns:List NodeD} {k:Nat} (hk:k < ns.length):ei (ns.take (k+1))=ei (ns.take k)++(ns.getD k default).fields:=by
 unfold ei
 rw [List.take_add_one,List.getElem?_eq_getElem hk,List.getD_eq_getElem?_getD,List.getElem?_eq_getElem hk]
 simp only [Option.toList_some,List.flatMap_append,List.flatMap_cons,List.flatMap_nil,Option.getD_some,List.append_nil]
theorem ov (ns:List NodeD) (rs:List (Int×Int)) (k:Nat) (hk:k < ns.length) (j:Nat):ei (ns.take k)++(ns.getD k default).fields.take j <+:allV ns rs:=by
 have h:ns=ns.take (k+1)++ns.drop (k+1):=(List.take_append_drop _ _).symm
 have h2:ei ns=ei (ns.take (k+1))++ei (ns.drop (k+1)):=by
  conv=>lhs;rw [h]
  exact List.flatMap_append
 unfold allV
 rw [h2,l9 hk]
 have h3:(ns.getD k default).fields=(ns.getD k default).fields.take j++(ns.getD k default).fields.drop j:=(List.take_append_drop _ _).symm
 refine ⟨(ns.getD k default).fields.drop j++(ei (ns.drop (k+1))++rs),?_⟩
 conv=>rhs;rw [h3]
 simp only [List.append_assoc]
theorem qb (ns:List NodeD) (rs:List (Int×Int)) (j:Nat):ei ns++rs.take j <+:allV ns rs:=by
 refine ⟨rs.drop j,?_⟩
 unfold allV
 rw [List.append_assoc,List.take_append_drop]
theorem ld {l:List (Int×Int)} {k:Nat} (hk:k < l.length):l.take (k+1)=l.take k++ [l.getD k (0,0)]:=by
 rw [List.take_add_one,List.getElem?_eq_getElem hk,List.getD_eq_getElem?_getD,List.getElem?_eq_getElem hk]
 rfl
theorem mZ (Bg Bout:Nat) (nA:Option Addr) (ncap:Nat) (ns:List NodeD) (rA:Option Addr) (rcap:Nat) (rs:List (Int×Int)) (w:World) (hBg:Bg < w.heap.size)
  (hc0:w.cell? ⟨Bg,0,none⟩=some (.slice nA ns.length ncap)) (hc1:w.cell? ⟨Bg,1,none⟩=some (.slice rA rs.length rcap)) (hN:NodesAt w nA ns) (hR:SpansAt w rA rs)
  (hn:ns.length≤9223372036854775807) (hr:rs.length≤9223372036854775807) (hf:∀x∈ns,x.fields.length≤9223372036854775807) (hBo:Bout < w.heap.size):
  jM Tryz.prog 131 #[.pointer (some ⟨Bg,0,none⟩)] (fun x:Int×Int=> #[.agg #[.int .i64 (x.1),.int .i64 (x.2)]]) w.heap.size Bout (fun ys=>ys=allV ns rs) (fun pre=>pre <+:allV ns rs) (fun pre=>pre <+:allV ns rs) w:=by
 intro l J Jx U hW hJ hJx hY h0
 refine callsIn_wide.2 ?_
 show Calls Tryz.prog 131 #[.func (.yield l) #[] #[],.pointer (some ⟨Bg,0,none⟩)] U _
 have hW:Ext w U:=hW
 have HY:=zH hY
 have HJ:=zH hJ
 have HN:=zH hN
 have HR:=zH hR
 have HF:=zH hf
 have H0:=zH h0
 have HC1:=zH hc1
 have c0:=hW.cell hc0
 have HW:=zH hW
 clear hY hJ hJx h0 hN hR hc0 hc1 hf hW
 go_enter Tryz.func131,Tryz.ntmps131
 go_wp2_with fail
 go_loopw [12] (fun i wr=>∃k:Nat,k≤ns.length∧i= .int .i64 k∧Hid (Ext w wr)∧U.heap.size≤wr.heap.size∧Hid (J (ei (ns.take k)) wr)) (fun i _=>ns.length - (intOf i).toNat)
 case atStart=>exact ⟨0,by omega,rfl,HW,Nat.le_refl _,H0⟩
 case round=>
  obtain ⟨k,hk,rfl,hx,hsz,hj⟩:=hrel
  clear H0 c0
  have hUw:=HW.out.size
  by_cases hlt:k < ns.length
  rotate_left
  ·obtain rfl:k=ns.length:=by omega
   rw [List.take_length]at hj
   have c1:=hx.out.cell HC1.out
   go_wp2_with fail
   go_loopw [32] (fun i wr=>∃j:Nat,j≤rs.length∧i= .int .i64 j∧Hid (Ext w wr)∧U.heap.size≤wr.heap.size∧Hid (J (ei ns++rs.take j) wr)) (fun i _=>rs.length - (intOf i).toNat)
   case atStart=>exact ⟨0,by omega,rfl,hx,hsz,by simpa using hj⟩
   case round=>
    obtain ⟨j,hj2,rfl,hx2,hsz2,hjj⟩:=hrel
    clear hx hsz hj c1
    by_cases hlt2:j < rs.length
    rotate_left
    ·obtain rfl:j=rs.length:=by omega
     rw [List.take_length]at hjj
     go_wp2_with fail
     go_end0
     exact ⟨⟨_,rfl⟩,.inl ⟨_,rfl,hjj.out⟩⟩
    obtain ⟨lb,off,rfl,hc⟩:=HR.out.get oM
    obtain ⟨f1,f2⟩:=aQ hc hlt2
    have c1:=hx2.out.cell f1
    have c2:=hx2.out.cell f2
    have HT:=zH (ld hlt2)
    have HPX:=zH (qb ns rs (j+1))
    have ib1:(j:Int) < (rs.length:Int):=by omega
    clear hc f1 f2
    generalize rs.getD j (0,0)=y at*
    obtain ⟨p,q⟩:=y
    simp only at c1 c2
    have hxv:Ext wr (wr.alloc (.cells #[.int .i64 p,.int .i64 q] 71)):=(zo _).alloc _
    have hJW:=HJ.out _ _ _ hjj.out (AN hxv hsz2)
    have hml:(ei ns++rs.take j)++ [(p,q)] <+:allV ns rs:=by
     rw [List.append_assoc,←HT.out];exact HPX.out
    obtain ⟨fn,tmps,assign,body,hy,hRR⟩:=HY.out _ (p,q) _ hJW hml
    dsimp only at hy
    have hro:Fence.wide.round=none:=rfl
    have HXV:=zH (hx2.out.trans hxv)
    clear hml hxv hJW
    go_upto_region 12 with (fail)
    refine (wpIn_wide (n:=4)).1 ?_
    gi_wp2
    refine hRR.mono ?_
    clear hy hRR
    rintro e W3 (⟨rfl,hJ3,hk3⟩ | ⟨rfl,hJx3⟩)
    ·have hs3:=hk3.below.size
     have HX3:=zH (Below.trans HXV.out hk3.below)
     have J3:=zH hJ3
     simp only [World.size_alloc]at hs3
     clear hk3 hJ3
     gi_wp2
     go_wp2_with fail
     go_roundw
     case rel=>exact ⟨j+1,by omega,by go_num,HX3,by omega,by rw [HT.out,←List.append_assoc];exact J3⟩
     case measure=>simp [intOf];omega
    ·gi_wp2
     go_wp2_with fail
     (try simp only [Exit.inBlock,Exit.then])
     refine bodyPost_ret (results_none rfl _ _ _) rfl ?_
     exact ⟨⟨_,rfl⟩,.inr ⟨_,by rw [List.append_assoc,←HT.out];exact HPX.out,hJx3⟩⟩
  obtain ⟨nb,noff,rfl,hcn⟩:=HN.out.row.get oM
  obtain ⟨d0,d1,d2⟩:=bB hcn hlt
  have e0:=hx.out.cell d0
  have e1:=hx.out.cell d1
  have e2:=hx.out.cell d2
  have HS:=zH (HN.out.each _ (aH (d:=default) hlt)).fields
  have hfl:=HF.out _ (aH (d:=default) hlt)
  have HT:=zH (l9 hlt)
  have HPX:=zH (ov ns rs k hlt)
  have ib1:(k:Int) < (ns.length:Int):=by omega
  clear hcn d0 d1 d2
  generalize ns.getD k default=x at*
  obtain ⟨xk,xA,xc,fs,yA,yc,ys⟩:=x
  simp only at e0 e1 e2 hfl HT HPX HS
  have hxn:Ext wr (wr.alloc (.cells #[.int .i64 xk,.slice xA fs.length xc,.slice yA ys.length yc] 66)):=(zo _).alloc _
  have HX1:=zH (hx.out.trans hxn)
  have HJ1:=zH (HJ.out _ _ _ hj.out (AN hxn hsz))
  clear hxn
  go_wp2_with fail
  go_loopw [19] (fun i wr'=>∃j:Nat,j≤fs.length∧i= .int .i64 j∧Hid (Ext w wr')∧U.heap.size≤wr'.heap.size∧Hid (J (ei (ns.take k)++fs.take j) wr')) (fun i _=>fs.length - (intOf i).toNat)
  case atStart=>exact ⟨0,by omega,rfl,HX1,by simp;omega,by simpa using HJ1⟩
  case round=>
   obtain ⟨j,hj2,rfl,hx2,hsz2,hjj⟩:=hrel
   clear HX1 HJ1 hx hj
   by_cases hlt2:j < fs.length
   rotate_left
   ·obtain rfl:j=fs.length:=by omega
    rw [List.take_length]at hjj
    go_wp2_with fail
    go_roundw
    case rel=>exact ⟨k+1,by omega,by go_num,hx2,hsz2,by rw [HT.out];exact hjj⟩
    case measure=>simp [intOf];omega
   obtain ⟨lb,off,rfl,hc⟩:=HS.out.get oM
   obtain ⟨f1,f2⟩:=aQ hc hlt2
   have c1:=hx2.out.cell f1
   have c2:=hx2.out.cell f2
   have HT2:=zH (ld hlt2)
   have ib2:(j:Int) < (fs.length:Int):=by omega
   clear hc f1 f2
   generalize fs.getD j (0,0)=y at*
   obtain ⟨p,q⟩:=y
   simp only at c1 c2
   have hxv:Ext wr (wr.alloc (.cells #[.int .i64 p,.int .i64 q] 71)):=(zo _).alloc _
   have hJW:=HJ.out _ _ _ hjj.out (AN hxv hsz2)
   have hml:(ei (ns.take k)++fs.take j)++ [(p,q)] <+:allV ns rs:=by
    rw [List.append_assoc,←HT2.out];exact HPX.out _
   obtain ⟨fn,tmps,assign,body,hy,hRR⟩:=HY.out _ (p,q) _ hJW hml
   dsimp only at hy
   have hro:Fence.wide.round=none:=rfl
   have HXV:=zH (hx2.out.trans hxv)
   clear hml hxv hJW
   go_upto_region 6 with (fail)
   refine (wpIn_wide (n:=4)).1 ?_
   gi_wp2
   refine hRR.mono ?_
   clear hy hRR
   rintro e W3 (⟨rfl,hJ3,hk3⟩ | ⟨rfl,hJx3⟩)
   ·have hs3:=hk3.below.size
    have HX3:=zH (Below.trans HXV.out hk3.below)
    have J3:=zH hJ3
    simp only [World.size_alloc]at hs3
    clear hk3 hJ3
    gi_wp2
    go_wp2_with fail
    go_roundw
    case rel=>exact ⟨j+1,by omega,by go_num,HX3,by omega,by rw [HT2.out,←List.append_assoc];exact J3⟩
    case measure=>simp [intOf];omega
   ·gi_wp2
    go_wp2_with fail
    (try simp only [Exit.inBlock,Exit.then])
    refine bodyPost_ret (results_none rfl _ _ _) rfl ?_
    exact ⟨⟨_,rfl⟩,.inr ⟨_,by rw [List.append_assoc,←HT2.out];exact HPX.out _,hJx3⟩⟩
end Go.Proofs.YtphpppjfogpohaaGreat
