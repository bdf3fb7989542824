/- The law GraphBack. -/
import Derived.Test.YtidfibheehcdgaaGraMo
set_option linter.unusedSimpArgs false
set_option linter.unusedVariables false
namespace Go.Proofs.Ytidfibheehcdgaa
open Go.RowKit Go.Shelf

set_option maxRecDepth 100000
set_option maxHeartbeats 2000000
theorem back16_any (G : GraphD) (A : Option Addr) (cap : Nat) (o : List Int) (V : World) (hG : GraphAt V G) (oG : GraphOk G) (hl : IntsAt V A o) (how : ∀ x ∈ o, -9223372036854775808 ≤ x ∧ x ≤ 9223372036854775807) (hlen : o.length ≤ 9223372036854775807) :
    Calls Try.prog 5 #[.agg #[.slice G.nA G.ns.length G.ncap, .slice G.rA G.rs.length G.rcap], .slice A o.length cap] V fun e w' => e = .returned (.bool true) ∧ Ext V w' := by
  obtain ⟨nA, ncap, ns, rA, rcap, rs⟩ := G
  have HG := Lib.hid hG
  have HK := Lib.hid oG
  have HL := Lib.hid hl
  have HOW := Lib.hid how
  have hW : Ext V (V.alloc (.cells #[.slice nA ns.length ncap, .slice rA rs.length rcap] 25)) := (Ext.refl V).alloc _
  have B1 := Lib.hid (blk_new V #[.slice nA ns.length ncap, .slice rA rs.length rcap] 25 _ rfl)
  obtain ⟨b, hb⟩ : ∃ b, largeG ⟨nA, ncap, ns, rA, rcap, rs⟩ = b := ⟨_, rfl⟩
  have HB := Lib.hid hb
  clear hG oG hl how hb
  go_enter Try.func5, Try.ntmps5
  go_wp2_with fail
  have Z := large_is ⟨nA, ncap, ns, rA, rcap, rs⟩ b HB.out _ (HG.out.ext hW) HK.out
  generalize V.alloc (.cells #[.slice nA ns.length ncap, .slice rA rs.length rcap] 25) = W at *
  have k0 : ∀ w', Ext W w' → w'.cell? ⟨V.heap.size, 0, none⟩ = some (.slice nA ns.length ncap) := fun w' h => h.cell (by simp [World.cell?, B1.out])
  have k1 : ∀ w', Ext W w' → w'.cell? ⟨V.heap.size, 1, none⟩ = some (.slice rA rs.length rcap) := fun w' h => h.cell (by simp [World.cell?, B1.out])
  have lt1 := lt_of_heap B1.out
  refine Z.mono ?_
  clear Z
  rintro e w1 ⟨rfl, hx⟩
  cases b
  rotate_left
  · go_wp2_with fail
    refine (awake16_any _).mono ?_
    rintro e w2 ⟨rfl, hx2⟩
    go_wp2_with fail
    go_ret
    exact ⟨rfl, hW.trans (hx.trans hx2)⟩
  by_cases hq : 100 < o.length
  · have h1 : decide ((100 : Int) < (o.length : Int)) = true := by simp; omega
    clear hq
    go_wp2_with fail
    refine (awake16_any _).mono ?_
    rintro e w3 ⟨rfl, hx2⟩
    go_wp2_with fail
    go_ret
    exact ⟨rfl, hW.trans (hx.trans hx2)⟩
  have h1 : decide ((100 : Int) < (o.length : Int)) = false := by simp; omega
  have hol : o.length ≤ 1000 := by omega
  have hnl : ns.length ≤ 1000 := by
    have := HB.out
    simp [largeG] at this
    omega
  clear hq
  go_wp2_with fail
  refine (refcopy_any ⟨nA, ncap, ns, rA, rcap, rs⟩ _ (HG.out.ext (hW.trans hx)) HK.out).mono ?_
  rintro e w2 ⟨⟨pA, pcap, ps, tA, tcap, ts⟩, rfl, ho1, hv1, hr1, hx2⟩
  have hP := ho1.at
  have oP := ho1.ok hv1 hr1 HK.out
  have s1 : V.heap.size < w2.heap.size := by have := hx.size; have := hx2.size; omega
  replace hx := hx.trans hx2
  have HV1 := Lib.hid hv1
  have HR1 := Lib.hid hr1
  clear ho1 hv1 hr1 hx2
  go_wp2_with fail
  have hxn := (Ext.refl w2).alloc (.cells #[.slice pA ps.length pcap, .slice tA ts.length tcap] 25)
  have B5 := Lib.hid (blk_new w2 #[.slice pA ps.length pcap, .slice tA ts.length tcap] 25 _ rfl)
  have HP := Lib.hid (hP.ext hxn)
  have OP := Lib.hid oP
  replace hx := hx.trans hxn
  clear hP oP hxn s1
  generalize w2.alloc (.cells #[.slice pA ps.length pcap, .slice tA ts.length tcap] 25) = W1 at *
  generalize w2.heap.size = X5 at *
  refine (copy_any ⟨nA, ncap, ns, rA, rcap, rs⟩ _ (HG.out.ext (hW.trans hx)) HK.out).mono ?_
  rintro e w3 ⟨⟨cA, ccap, cs, dA, dcap, ds⟩, rfl, ho2, hv2, hr2, hx2⟩
  have OC := Lib.hid (ho2.ok hv2 hr2 HK.out)
  have HV2 := Lib.hid hv2
  have HR2 := Lib.hid hr2
  have HO2 := Lib.hid ho2
  have s1 : V.heap.size < w3.heap.size := by have := hx.size; have := hx2.size; omega
  have hxw := hx.trans hx2
  clear hv2 hr2 ho2
  go_wp2_with fail
  clear s1
  have hxn := (Ext.refl w3).alloc (.cells #[.slice cA cs.length ccap, .slice dA ds.length dcap] 25)
  have B6 := blk_new w3 #[.slice cA cs.length ccap, .slice dA ds.length dcap] 25 _ rfl
  have HM := Lib.hid (ModI.start (HO2.out.ext hxn) B6 (hx2.trans hxn))
  have HC := Lib.hid (HO2.out.at.ext hxn)
  have HS : Hid (sameG ⟨cA, ccap, cs, dA, dcap, ds⟩ ⟨nA, ncap, ns, rA, rcap, rs⟩ = true) := Lib.hid (by
    unfold sameG sameL
    rw [show (⟨cA, ccap, cs, dA, dcap, ds⟩ : GraphD).rs = rs from HR2.out, show cs.map nodeV = ns.map nodeV from HV2.out]
    simp)
  have hclen : cs.length ≤ 1000 := by have := congrArg List.length HV2.out; simp at this; omega
  replace hxw := hxw.trans hxn
  clear hxn B6 hx2 HO2 HR2 HV2
  generalize w3.alloc (.cells #[.slice cA cs.length ccap, .slice dA ds.length dcap] 25) = W3 at *
  generalize w3.heap.size = X6 at *
  refine (refsame_is ⟨cA, ccap, cs, dA, dcap, ds⟩ ⟨nA, ncap, ns, rA, rcap, rs⟩ true _ HS.out HC.out (HG.out.ext (hW.trans hxw)) OC.out HK.out).mono ?_
  rintro e w4 ⟨rfl, hx4⟩
  have HMr : Hid (ModI W1 X6 #[.slice cA cs.length ccap, .slice dA ds.length dcap] cA ccap cs w4) := Lib.hid (by
    have h := HM.out
    exact ⟨h.own.ext hx4, fun c hc => (h.f c hc).ext hx4, fun c hc => (h.r c hc).ext hx4, (hx4.block (lt_of_heap h.box)).trans h.box, h.ext.trans hx4⟩)
  have HCF := Lib.hid (fun (c : NodeD) (hc : c ∈ cs) => (⟨(OC.out.each c hc).fl, (OC.out.each c hc).rl⟩ : c.fields.length ≤ 8796093022208 ∧ c.raws.length ≤ 17592186044416))
  clear HM HC HS OC hx4 hxw
  go_wp2_with fail
  go_loopw [7] (fun i wr => ∃ k : Nat, k ≤ cs.length ∧ i = .int .i64 k ∧ Hid (ModI W1 X6 #[.slice cA cs.length ccap, .slice dA ds.length dcap] cA ccap cs wr)) (fun i _ => cs.length - (intOf i).toNat)
  case atStart => exact ⟨0, by omega, rfl, HMr⟩
  case round =>
    obtain ⟨i, hi, rfl, hM⟩ := hrel
    clear HMr
    have q0 : wr.cell? ⟨X6, 0, none⟩ = some (.slice cA cs.length ccap) := by simp [World.cell?, hM.out.box]
    by_cases hlt : i < cs.length
    rotate_left
    · obtain rfl : i = cs.length := by omega
      have hxr := hx.trans hM.out.ext
      have B5r := Lib.hid ((hM.out.ext.block (lt_of_heap B5.out)).trans B5.out)
      have p0 : wr.cell? ⟨X5, 0, none⟩ = some (.slice pA ps.length pcap) := by simp [World.cell?, B5r.out]
      have p1 : wr.cell? ⟨X5, 1, none⟩ = some (.slice tA ts.length tcap) := by simp [World.cell?, B5r.out]
      have HPr := Lib.hid (HP.out.ext hM.out.ext)
      have HS : Hid (sameG ⟨pA, pcap, ps, tA, tcap, ts⟩ ⟨nA, ncap, ns, rA, rcap, rs⟩ = true) := Lib.hid (by
        unfold sameG sameL
        rw [show (⟨pA, pcap, ps, tA, tcap, ts⟩ : GraphD).rs = rs from HR1.out, show ps.map nodeV = ns.map nodeV from HV1.out]
        simp)
      clear hM HCF
      go_wp2_with fail
      refine (refsame_is ⟨pA, pcap, ps, tA, tcap, ts⟩ ⟨nA, ncap, ns, rA, rcap, rs⟩ true _ HS.out HPr.out (HG.out.ext (hW.trans hxr)) OP.out HK.out).mono ?_
      rintro e w5 ⟨rfl, hx5⟩
      replace hxr := hxr.trans hx5
      clear hx5 p0 p1 B5r HS HPr HP OP hx B5 HV1 HR1 q0
      go_wp2_with fail
      obtain ⟨er, her⟩ : ∃ e, renE ⟨nA, ncap, ns, rA, rcap, rs⟩ o = e := ⟨_, rfl⟩
      refine (ren_any ⟨nA, ncap, ns, rA, rcap, rs⟩ A cap o _ (HG.out.ext (hW.trans hxr)) HK.out (HL.out.ext (hW.trans hxr)) hol HOW.out).mono ?_
      rw [her]
      rintro e w6 ⟨⟨eA, ecap, es, fA, fcap, fs⟩, rfl, hat6, hns6, hrs6, hcc, hc1, hc2, hc3, hc4, hx6⟩
      have HE := Lib.hid her
      have HN6 := Lib.hid hns6
      have HR6 := Lib.hid hrs6
      have s6 : V.heap.size < w6.heap.size := by have := hxr.size; have := hx6.size; omega
      replace hxr := hxr.trans hx6
      clear hns6 hrs6 hx6 her
      by_cases her : er = 0
      rotate_left
      · have hne : (er != 0) = true := by simpa using her
        clear her
        go_wp2_with fail
        refine (awake16_any _).mono ?_
        rintro e w7 ⟨rfl, hx7⟩
        go_wp2_with fail
        go_ret
        exact ⟨rfl, hW.trans ((hxr.alloc _).trans hx7)⟩
      subst her
      by_cases hll : o.length = ns.length
      rotate_left
      · have hne : ((o.length : Int) != (ns.length : Int)) = true := by simp; omega
        clear hll
        go_wp2_with fail
        refine (awake16_any _).mono ?_
        rintro e w7 ⟨rfl, hx7⟩
        go_wp2_with fail
        go_ret
        exact ⟨rfl, hW.trans ((hxr.alloc _).trans hx7)⟩
      have hne : ((o.length : Int) != (ns.length : Int)) = false := by simp; omega
      have hx7 := (Ext.refl w6).alloc (.cells #[.slice eA es.length ecap, .slice fA fs.length fcap] 25)
      have B10 := Lib.hid (blk_new w6 #[.slice eA es.length ecap, .slice fA fs.length fcap] 25 _ rfl)
      have H6 := Lib.hid (hat6.ext hx7)
      have HLL := Lib.hid hll
      have HCC := Lib.hid hcc
      have HC1 := Lib.hid hc1
      have HC2 := Lib.hid hc2
      clear hat6 hll hcc hc1 hc2
      go_wp2_with (at_make; refine wpList_makeI rfl (.tmp 107) rfl o.length rfl (by omega) ?_; intro w7 hown7 hxm7; have HO7 := Lib.hid (by have hz : (w6.alloc (.cells #[.slice eA es.length ecap, .slice fA fs.length fcap] 25)).heap.size = w6.heap.size + 1 := (by simp); rw [hz] at hown7; exact hown7 : Own 3 1 intC w7 (w6.heap.size + 1) (.slice (some ⟨w6.heap.size + 1, 0, none⟩) o.length o.length) (List.replicate o.length (0 : Int))); have HX7 := Lib.hid hxm7; clear hown7 hxm7)
      obtain ⟨hR, hBd⟩ := renE_zero HE.out
      have HRG := Lib.hid hR
      have HPM := Lib.hid (Perm.of_bad hBd HLL.out)
      have HTB := Lib.hid (turnedBy_of (H := ⟨eA, ecap, es, fA, fcap, fs⟩) HE.out HN6.out HR6.out)
      have HOKE := Lib.hid (RetN.ok HK.out hol HTB.out HPM.out HCC.out HC1.out HC2.out hc3 hc4)
      have hxr7 := hxr.trans hx7
      have HBS := Lib.hid (show (w6.alloc (.cells #[.slice eA es.length ecap, .slice fA fs.length fcap] 25)).heap.size ≤ w6.heap.size + 1 by simp)
      clear hR hBd HN6 HR6 HCC HC1 HC2 hx7 hxr hne
      generalize w6.alloc (.cells #[.slice eA es.length ecap, .slice fA fs.length fcap] 25) = W6 at *
      generalize w6.heap.size = X10 at *
      have HBM := Lib.hid (show W6.heap.size ≤ X10 + 1 from HBS.out)
      go_loopw [13] (fun j wr => ∃ k : Nat, k ≤ o.length ∧ j = .int .i64 k ∧ Hid (Ext W6 wr) ∧ Hid (Own 3 1 intC wr (X10 + 1) (.slice (some ⟨X10 + 1, 0, none⟩) o.length o.length) (bkO o o.length k))) (fun j _ => o.length - (intOf j).toNat)
      case atStart => exact ⟨0, by omega, rfl, HX7, Lib.hid (by rw [bkO_zero]; exact HO7.out)⟩
      case round =>
        obtain ⟨k, hk, rfl, hxk, hO⟩ := hrel
        clear HX7 HO7
        have hxV := hW.trans (hxr7.trans hxk.out)
        by_cases hlk : k < o.length
        rotate_left
        · obtain rfl : k = o.length := by omega
          have HBK : Hid (IntsAt wr (some ⟨X10 + 1, 0, none⟩) (backO o o.length)) := Lib.hid (by
            have hp : Perm o o.length := by have := HPM.out; simp only [← HLL.out] at this; exact this
            rw [← bkO_all hp]
            have := hO.out
            exact (own_row (cap := o.length) (by rw [show (bkO o o.length o.length).length = o.length by simp [bkO]]; exact this) intCells (by decide)).1)
          have B10r := Lib.hid ((hxk.out.block (lt_of_heap B10.out)).trans B10.out)
          have q0 : wr.cell? ⟨X10, 0, none⟩ = some (.slice eA es.length ecap) := by simp [World.cell?, B10r.out]
          have q1 : wr.cell? ⟨X10, 1, none⟩ = some (.slice fA fs.length fcap) := by simp [World.cell?, B10r.out]
          have HTK := Lib.hid (HTB.out.back HPM.out HRG.out hnl)
          have HRT := Lib.hid (HTB.out.right HPM.out HRG.out hnl)
          have H6r := Lib.hid (H6.out.ext hxk.out)
          have hxw := hxr7.trans hxk.out
          have s8 := lt_of_heap B10r.out
          clear hO hxk
          go_wp2_with fail
          have Z := ren_any ⟨eA, ecap, es, fA, fcap, fs⟩ (some ⟨X10 + 1, 0, none⟩) o.length (backO o o.length) wr H6r.out HOKE.out HBK.out (by rw [back_len]; exact hol) (back_bd hol)
          rw [back_len] at Z
          refine Z.mono ?_
          clear Z
          have HTK2 : Hid (renE ⟨eA, ecap, es, fA, fcap, fs⟩ (backO o o.length) = 0 ∧ renN ⟨eA, ecap, es, fA, fcap, fs⟩ (backO o o.length) = ns.map nodeV ∧ renR ⟨eA, ecap, es, fA, fcap, fs⟩ (backO o o.length) = rs) := Lib.hid (by have := HTK.out; simp only [← HLL.out] at this; exact this)
          rw [HTK2.out.1, HTK2.out.2.1, HTK2.out.2.2]
          rintro e w8 ⟨⟨gA, gcap, gs, tA2, tcap2, ts2⟩, rfl, hat8, hns8, hrs8, -, -, -, -, -, hx8⟩
          have HN8 := Lib.hid hns8
          have HR8 := Lib.hid hrs8
          have s9 : X10 < w8.heap.size := by have := hx8.size; omega
          clear hns8 hrs8
          have hxq := hxw.trans hx8
          have H8G := Lib.hid (H6r.out.ext hx8)
          have B10q := Lib.hid ((hx8.block (lt_of_heap B10r.out)).trans B10r.out)
          have r0 : w8.cell? ⟨X10, 0, none⟩ = some (.slice eA es.length ecap) := by simp [World.cell?, B10q.out]
          have r1 : w8.cell? ⟨X10, 1, none⟩ = some (.slice fA fs.length fcap) := by simp [World.cell?, B10q.out]
          have s10 : V.heap.size < w8.heap.size := by have := hxq.size; omega
          clear q0 q1 B10r H6r HBK s8 hx8 hxw
          go_wp2_with fail
          clear s9 s10
          have hx9 := (Ext.refl w8).alloc (.cells #[.slice gA gs.length gcap, .slice tA2 ts2.length tcap2] 25)
          have B14 := Lib.hid (blk_new w8 #[.slice gA gs.length gcap, .slice tA2 ts2.length tcap2] 25 _ rfl)
          have H8W := Lib.hid (H8G.out.ext hx9)
          have HGW := Lib.hid (HG.out.ext (hW.trans (hxq.trans hx9)))
          have H14 := Lib.hid (hat8.ext hx9)
          have hxz := hxq.trans hx9
          have HS14 : Hid (sameG ⟨gA, gcap, gs, tA2, tcap2, ts2⟩ ⟨nA, ncap, ns, rA, rcap, rs⟩ = true) := Lib.hid (by
            unfold sameG sameL
            rw [show (⟨gA, gcap, gs, tA2, tcap2, ts2⟩ : GraphD).rs = rs from HR8.out, show gs.map nodeV = ns.map nodeV from HN8.out]
            simp)
          have gl1 : gs.length ≤ 9223372036854775807 := by have := congrArg List.length HN8.out; simp at this; omega
          have gl2 : ts2.length ≤ 9223372036854775807 := by have := HR8.out; have h2 := HK.out.rl; simp only at h2; rw [show ts2 = rs from this]; omega
          have GB := Lib.hid (show ∀ x ∈ gs, NodeB x from fun x hx => by
            obtain ⟨y, hy, e⟩ := map_mem HN8.out hx
            have := HK.out.each y hy
            simp only [nodeV, Prod.mk.injEq] at e
            exact ⟨by rw [e.2.1]; have := this.fl; omega, by rw [e.2.2]; have := this.rl; omega⟩)
          have NB := Lib.hid (show ∀ x ∈ ns, NodeB x from fun x hx => by
            have := HK.out.each x hx
            exact ⟨by have := this.fl; omega, by have := this.rl; omega⟩)
          have nl1 : ns.length ≤ 9223372036854775807 := by omega
          have nl2 : rs.length ≤ 9223372036854775807 := by have := HK.out.rl; simp only at this; omega
          have el1 : es.length ≤ 9223372036854775807 := by have := HOKE.out.nl; simp only at this; omega
          have el2 : fs.length ≤ 9223372036854775807 := by have := HOKE.out.rl; simp only at this; omega
          clear r0 r1 hx9 hxq hat8 H8G B10q
          generalize w8.alloc (.cells #[.slice gA gs.length gcap, .slice tA2 ts2.length tcap2] 25) = W8 at *
          generalize w8.heap.size = X14 at *
          refine (right_is ⟨eA, ecap, es, fA, fcap, fs⟩ true HRT.out _ H8W.out el1 el2 (fun x hx => by have := (HOKE.out.each x hx).fl; omega)).mono ?_
          rintro e w9 ⟨rfl, hx9⟩
          have B14q := Lib.hid ((hx9.block (lt_of_heap B14.out)).trans B14.out)
          have r0 : w9.cell? ⟨X14, 0, none⟩ = some (.slice gA gs.length gcap) := by simp [World.cell?, B14q.out]
          have r1 : w9.cell? ⟨X14, 1, none⟩ = some (.slice tA2 ts2.length tcap2) := by simp [World.cell?, B14q.out]
          replace hxz := hxz.trans hx9
          go_wp2_with fail
          refine (refsame_b ⟨gA, gcap, gs, tA2, tcap2, ts2⟩ ⟨nA, ncap, ns, rA, rcap, rs⟩ true _ HS14.out (H14.out.ext hx9) (HGW.out.ext hx9) gl1 gl2 nl1 nl2 GB.out NB.out).mono ?_
          rintro e w10 ⟨rfl, hx10⟩
          replace hxz := hxz.trans hx10
          clear r0 r1
          go_wp2_with fail
          refine (awake16_any _).mono ?_
          rintro e w11 ⟨rfl, hx11⟩
          go_wp2_with fail
          go_ret
          exact ⟨rfl, hW.trans (hxz.trans hx11)⟩
        obtain ⟨lb, off, rfl, hc⟩ := HL.out.get (by omega)
        have c1 := hxV.cell (ints_cell hc hlk)
        have HSB := Lib.hid (bkO_step (o := o) (n := o.length) (k := k) (by have := HPM.out; simp only [← HLL.out] at this; exact this) hlk)
        obtain ⟨y1, y2⟩ := HPM.out.in_ k (by have := HLL.out; simp only; omega)
        have y3 : o.getD k 0 < (o.length : Int) := by have := HLL.out; simp only at y2; omega
        have HOS := Lib.hid (fun (m : Nat) (z : Int) => own_setI hO.out (by simp [bkO]) m z)
        obtain ⟨curb, hh⟩ := own_heap hO.out
        have fz := fun (m : Nat) => frozen_of_row _ _ m _ _ hh
        have fc : ∀ m, m < o.length → wr.cell? ⟨X10 + 1, m, none⟩ = some (.int .i64 ((bkO o o.length k).getD m 0)) := fun m hm => by
          have h3 : Own 3 1 intC wr (X10 + 1) (.slice (some ⟨X10 + 1, 0, none⟩) (bkO o o.length k).length o.length) (bkO o o.length k) := by rw [show (bkO o o.length k).length = o.length by simp [bkO]]; exact hO.out
          have := ints_cell (row_here (own_row h3 intCells (by decide)).1 (by simp [bkO]; omega)) (k := m) (by simp [bkO]; omega)
          rw [Nat.zero_add] at this
          exact this
        have ib1 : (k : Int) < (o.length : Int) := by omega
        have HXS := Lib.hid (fun (m : Nat) (u : Value) => hxk.out.setCell (p := ⟨X10 + 1, m, none⟩) HBM.out u)
        clear hc y2 hO hxk hxV
        generalize o.getD k 0 = y at *
        have FC := Lib.hid fc
        clear fc
        obtain ⟨m, rfl⟩ := Int.eq_ofNat_of_zero_le y1
        simp only [Int.toNat_natCast] at HSB
        have fzm := fz m
        clear fz y1
        have y4 : m < o.length := by omega
        have c2 := FC.out m y4
        clear hh FC
        generalize (bkO o o.length k).getD m 0 = oldm at c2
        go_wp2_with fail
        go_roundw
        case rel => exact ⟨k + 1, by omega, by go_num, Lib.hid (HXS.out _ _), Lib.hid (by rw [← HSB.out]; exact HOS.out m k)⟩
        case measure => simp [intOf]; omega
    obtain ⟨nb, noff, rfl, hcn⟩ := (own_row hM.out.own nodeCells (by decide)).1.get (by omega)
    have ib1 : (i : Int) < (cs.length : Int) := by omega
    have HCI := Lib.hid (getD_mem (d := default) hlt)
    obtain ⟨hfl, hrl⟩ := HCF.out _ HCI.out
    have HND := Lib.hid (fun (w' : World) (h : ModI W1 X6 #[.slice (some ⟨nb, noff, none⟩) cs.length ccap, .slice dA ds.length dcap] (some ⟨nb, noff, none⟩) ccap cs w') => h.node hlt)
    have HNF := Lib.hid (fun (w' : World) (h : ModI W1 X6 #[.slice (some ⟨nb, noff, none⟩) cs.length ccap, .slice dA ds.length dcap] (some ⟨nb, noff, none⟩) ccap cs w') => h.f _ HCI.out)
    have HNR := Lib.hid (fun (w' : World) (h : ModI W1 X6 #[.slice (some ⟨nb, noff, none⟩) cs.length ccap, .slice dA ds.length dcap] (some ⟨nb, noff, none⟩) ccap cs w') => h.r _ HCI.out)
    clear hcn HCI
    generalize cs.getD i default = x at *
    obtain ⟨xk, xA, xc, fs, yA, yc, ys⟩ := x
    simp only at hfl hrl HND HNF HNR
    go_wp2_with fail
    clear q0
    go_loopw [8] (fun j wr => ∃ k : Nat, k ≤ fs.length ∧ j = .int .i64 k ∧ Hid (ModI W1 X6 #[.slice (some ⟨nb, noff, none⟩) cs.length ccap, .slice dA ds.length dcap] (some ⟨nb, noff, none⟩) ccap cs wr)) (fun j _ => fs.length - (intOf j).toNat)
    case atStart => exact ⟨0, by omega, rfl, hM⟩
    case round =>
      obtain ⟨k, hk, rfl, hM2⟩ := hrel
      clear hM
      have q0 : wr.cell? ⟨X6, 0, none⟩ = some (.slice (some ⟨nb, noff, none⟩) cs.length ccap) := by simp [World.cell?, hM2.out.box]
      obtain ⟨d1, d2⟩ := HND.out _ hM2.out
      by_cases hlk : k < fs.length
      · obtain ⟨g, cur, z, rfl, hg, c1, fz, hB⟩ := (HNF.out _ hM2.out).at hlk
        have ib2 : (k : Int) < (fs.length : Int) := by omega
        have HSS := Lib.hid (fun (z : Int) => hM2.out.setV (k := k) (z := z) hg hB)
        clear hM2 hg hB d2
        go_wp2_with fail
        go_roundw
        case rel => exact ⟨k + 1, by omega, by go_num, Lib.hid (HSS.out _)⟩
        case measure => simp [intOf]; omega
      obtain rfl : k = fs.length := by omega
      clear d2
      go_wp2_with fail
      clear d1 q0
      go_loopw [9] (fun j wr => ∃ k : Nat, k ≤ ys.length ∧ j = .int .i64 k ∧ Hid (ModI W1 X6 #[.slice (some ⟨nb, noff, none⟩) cs.length ccap, .slice dA ds.length dcap] (some ⟨nb, noff, none⟩) ccap cs wr)) (fun j _ => ys.length - (intOf j).toNat)
      case atStart => exact ⟨0, by omega, rfl, hM2⟩
      case round =>
        obtain ⟨k, hk, rfl, hM3⟩ := hrel
        clear hM2
        have q0 : wr.cell? ⟨X6, 0, none⟩ = some (.slice (some ⟨nb, noff, none⟩) cs.length ccap) := by simp [World.cell?, hM3.out.box]
        obtain ⟨d1, d2⟩ := HND.out _ hM3.out
        clear d1
        by_cases hlk : k < ys.length
        · obtain ⟨g, cur, z, rfl, hg, c1, fz, hB⟩ := (HNR.out _ hM3.out).at hlk
          have ib2 : (k : Int) < (ys.length : Int) := by omega
          have HSS := Lib.hid (fun (z : Int) => hM3.out.setU (k := k) (z := z) hg hB)
          clear hM3 hg hB
          go_wp2_with fail
          go_roundw
          case rel => exact ⟨k + 1, by omega, by go_num, Lib.hid (HSS.out _)⟩
          case measure => simp [intOf]; omega
        obtain rfl : k = ys.length := by omega
        go_wp2_with fail
        go_roundw
        case rel => exact ⟨i + 1, by omega, by go_num, hM3⟩
        case measure => simp [intOf]; omega
end Go.Proofs.Ytidfibheehcdgaa
