/- The law GraphTurns. -/
import Derived.Test.YtidfibheehcdgaaGraX
set_option linter.unusedSimpArgs false
set_option linter.unusedVariables false
namespace Go.Proofs.Ytidfibheehcdgaa
open Go.RowKit Go.Shelf

/-- What a renumbering lays is not too large. -/
theorem ren_nodeB {G : GraphD} (oG : GraphOk G) (o : List Int) {ns : List NodeD} (h : ns.map nodeV = renN G o) : ∀ x ∈ ns, NodeB x := by
  intro x hx
  have h1 : nodeV x ∈ ns.map nodeV := List.mem_map.2 ⟨x, hx, rfl⟩
  rw [h, renN] at h1
  split at h1
  · obtain ⟨j, hj, e⟩ := List.mem_map.1 h1
    have bd : ∀ k : Nat, (G.ns.getD k default).fields.length ≤ 8796093022208 ∧ (G.ns.getD k default).raws.length ≤ 17592186044416 := fun k => by
      by_cases hk : k < G.ns.length
      · have := oG.each _ (getD_mem (d := default) hk); exact ⟨this.fl, this.rl⟩
      · rw [List.getD_eq_getElem?_getD, List.getElem?_eq_none (by omega)]; exact ⟨by decide, by decide⟩
    have := bd j.toNat
    have e1 := congrArg (fun y : Int × List (Int × Int) × List Int => y.2.1.length) e
    have e2 := congrArg (fun y : Int × List (Int × Int) × List Int => y.2.2.length) e
    simp only [turnN, nodeV, List.length_map] at e1 e2
    exact ⟨by omega, by omega⟩
  · cases h1
theorem ren_len {G : GraphD} (o : List Int) {ns : List NodeD} (h : ns.map nodeV = renN G o) : ns.length ≤ o.length := by
  have := congrArg List.length h
  rw [List.length_map, renN] at this
  split at this
  · simp only [List.length_map] at this; omega
  · simp only [List.length_nil] at this; omega
theorem ren_rs {G : GraphD} (o : List Int) {rs : List (Int × Int)} (h : rs = renR G o) : rs.length ≤ G.rs.length := by
  rw [h, renR]
  split <;> simp
theorem refsame_b (G H : GraphD) (b : Bool) (W : World) (hb : sameG G H = b) (hG : GraphAt W G) (hH : GraphAt W H) (g1 : G.ns.length ≤ 9223372036854775807) (g2 : G.rs.length ≤ 9223372036854775807) (h1 : H.ns.length ≤ 9223372036854775807) (h2 : H.rs.length ≤ 9223372036854775807)
    (bG : ∀ x ∈ G.ns, NodeB x) (bH : ∀ x ∈ H.ns, NodeB x) : Calls Try.prog 20 #[.agg #[.slice G.nA G.ns.length G.ncap, .slice G.rA G.rs.length G.rcap], .agg #[.slice H.nA H.ns.length H.ncap, .slice H.rA H.rs.length H.rcap]] W fun e w' => e = .returned (.bool b) ∧ Ext W w' := by
  rw [← hb]
  exact refsame_x _ _ _ _ _ _ _ _ _ _ _ _ W hG.nodes hH.nodes hG.roots hH.roots g1 g2 h1 h2 bG bH
theorem refsame_is (G H : GraphD) (b : Bool) (W : World) (h : sameG G H = b) (hG : GraphAt W G) (hH : GraphAt W H) (oG : GraphOk G) (oH : GraphOk H) :
    Calls Try.prog 20 #[.agg #[.slice G.nA G.ns.length G.ncap, .slice G.rA G.rs.length G.rcap], .agg #[.slice H.nA H.ns.length H.ncap, .slice H.rA H.rs.length H.rcap]] W fun e w' => e = .returned (.bool b) ∧ Ext W w' := by
  rw [← h]; exact refsame_any G H W hG hH oG oH

set_option maxRecDepth 100000
set_option maxHeartbeats 2000000
theorem turns16_any (G H : GraphD) (A : Option Addr) (cap : Nat) (o : List Int) (V : World) (hG : GraphAt V G) (oG : GraphOk G) (hH : GraphAt V H) (oH : GraphOk H) (hl : IntsAt V A o) (how : ∀ x ∈ o, -9223372036854775808 ≤ x ∧ x ≤ 9223372036854775807) (hlen : o.length ≤ 9223372036854775807) :
    Calls Try.prog 4 #[.agg #[.slice G.nA G.ns.length G.ncap, .slice G.rA G.rs.length G.rcap], .agg #[.slice H.nA H.ns.length H.ncap, .slice H.rA H.rs.length H.rcap], .slice A o.length cap] V fun e w' => e = .returned (.bool true) ∧ Ext V w' := by
  obtain ⟨nA, ncap, ns, rA, rcap, rs⟩ := G
  obtain ⟨mA, mcap, ms, qA, qcap, qs⟩ := H
  have HG := Lib.hid hG
  have HK := Lib.hid oG
  have HH := Lib.hid hH
  have HKH := Lib.hid oH
  have HL := Lib.hid hl
  have HOW := Lib.hid how
  have hW : Ext V ((V.alloc (.cells #[.slice nA ns.length ncap, .slice rA rs.length rcap] 25)).alloc (.cells #[.slice mA ms.length mcap, .slice qA qs.length qcap] 25)) := ((Ext.refl V).alloc _).alloc _
  have b1 := blk_old (o2 := .cells #[.slice mA ms.length mcap, .slice qA qs.length qcap] 25) (blk_new V #[.slice nA ns.length ncap, .slice rA rs.length rcap] 25 _ rfl)
  have b2 := blk_new (V.alloc (.cells #[.slice nA ns.length ncap, .slice rA rs.length rcap] 25)) #[.slice mA ms.length mcap, .slice qA qs.length qcap] 25 (V.heap.size + 1) (by simp)
  have B1 := Lib.hid b1
  have B2 := Lib.hid b2
  obtain ⟨b, hb⟩ : ∃ b, largeG ⟨nA, ncap, ns, rA, rcap, rs⟩ = b := ⟨_, rfl⟩
  obtain ⟨c, hc⟩ : ∃ b, largeG ⟨mA, mcap, ms, qA, qcap, qs⟩ = b := ⟨_, rfl⟩
  obtain ⟨sm, hsm⟩ : ∃ b, sameG ⟨nA, ncap, ns, rA, rcap, rs⟩ ⟨mA, mcap, ms, qA, qcap, qs⟩ = b := ⟨_, rfl⟩
  have HB := Lib.hid hb
  have HC := Lib.hid hc
  have HSM := Lib.hid hsm
  clear hG oG hH oH hl how hb hc hsm b1 b2
  go_enter Try.func4, Try.ntmps4
  go_wp2_with fail
  have Z := large_is ⟨nA, ncap, ns, rA, rcap, rs⟩ b HB.out _ (HG.out.ext hW) HK.out
  have Z2 := fun w1 hx => large_is ⟨mA, mcap, ms, qA, qcap, qs⟩ c HC.out w1 (HH.out.ext (hW.trans hx)) HKH.out
  generalize (V.alloc (.cells #[.slice nA ns.length ncap, .slice rA rs.length rcap] 25)).alloc (.cells #[.slice mA ms.length mcap, .slice qA qs.length qcap] 25) = W at *
  have k0 : ∀ w', Ext W w' → w'.cell? ⟨V.heap.size, 0, none⟩ = some (.slice nA ns.length ncap) := fun w' h => h.cell (by simp [World.cell?, B1.out])
  have k1 : ∀ w', Ext W w' → w'.cell? ⟨V.heap.size, 1, none⟩ = some (.slice rA rs.length rcap) := fun w' h => h.cell (by simp [World.cell?, B1.out])
  have k2 : ∀ w', Ext W w' → w'.cell? ⟨V.heap.size + 1, 0, none⟩ = some (.slice mA ms.length mcap) := fun w' h => h.cell (by simp [World.cell?, B2.out])
  have k3 : ∀ w', Ext W w' → w'.cell? ⟨V.heap.size + 1, 1, none⟩ = some (.slice qA qs.length qcap) := fun w' h => h.cell (by simp [World.cell?, B2.out])
  have lt1 := lt_of_heap B1.out
  have lt2 := lt_of_heap B2.out
  refine Z.mono ?_
  clear Z
  rintro e w1 ⟨rfl, hx⟩
  cases b
  rotate_left
  · go_wp2_with fail
    refine (awake16_any _).mono ?_
    rintro e w2 ⟨rfl, hx2⟩
    go_wp2_with fail
    go_ret
    exact ⟨rfl, hW.trans (hx.trans hx2)⟩
  go_wp2_with fail
  refine (Z2 _ hx).mono ?_
  clear Z2
  rintro e w2 ⟨rfl, hx'⟩
  replace hx := hx.trans hx'
  clear hx'
  cases c
  rotate_left
  · go_wp2_with fail
    refine (awake16_any _).mono ?_
    rintro e w3 ⟨rfl, hx2⟩
    go_wp2_with fail
    go_ret
    exact ⟨rfl, hW.trans (hx.trans hx2)⟩
  by_cases hq : 100 < o.length
  · have h1 : decide ((100 : Int) < (o.length : Int)) = true := by simp; omega
    clear hq
    go_wp2_with fail
    refine (awake16_any _).mono ?_
    rintro e w3 ⟨rfl, hx2⟩
    go_wp2_with fail
    go_ret
    exact ⟨rfl, hW.trans (hx.trans hx2)⟩
  have h1 : decide ((100 : Int) < (o.length : Int)) = false := by simp; omega
  have hol : o.length ≤ 1000 := by omega
  clear hq
  go_wp2_with fail
  refine (ren_any ⟨nA, ncap, ns, rA, rcap, rs⟩ A cap o _ (HG.out.ext (hW.trans hx)) HK.out (HL.out.ext (hW.trans hx)) hol HOW.out).mono ?_
  obtain ⟨er, her⟩ : ∃ e, renE ⟨nA, ncap, ns, rA, rcap, rs⟩ o = e := ⟨_, rfl⟩
  rw [her]
  rintro e w3 ⟨⟨nB, ncap2, ns2, rB, rcap2, rs2⟩, rfl, hat1, hns1, hrs1, -, -, -, -, -, hx2⟩
  replace hx := hx.trans hx2
  clear hx2
  have HN1 := Lib.hid hns1
  have HR1 := Lib.hid hrs1
  have s3 : V.heap.size < w3.heap.size := by have := hx.size; omega
  have s3' : V.heap.size + 1 < w3.heap.size := by have := hx.size; omega
  clear hns1 hrs1
  go_wp2_with fail
  clear s3 s3'
  have e1 := (Ext.refl w3).alloc (.cells #[.slice nB ns2.length ncap2, .slice rB rs2.length rcap2] 25)
  have B3 := Lib.hid (blk_new w3 #[.slice nB ns2.length ncap2, .slice rB rs2.length rcap2] 25 _ rfl)
  have HA1 := Lib.hid (hat1.ext e1)
  replace hx := hx.trans e1
  clear hat1 e1
  generalize w3.alloc (.cells #[.slice nB ns2.length ncap2, .slice rB rs2.length rcap2] 25) = W3 at *
  generalize w3.heap.size = X3 at *
  refine (refren_any ⟨nA, ncap, ns, rA, rcap, rs⟩ A cap o _ (HG.out.ext (hW.trans hx)) HK.out (HL.out.ext (hW.trans hx)) hol).mono ?_
  rw [her]
  rintro e w4 ⟨⟨nC, ncap3, ns3, rC, rcap3, rs3⟩, rfl, hat2, hns2, hrs2, -, -, -, -, -, hx2⟩
  have HN2 := Lib.hid hns2
  have HR2 := Lib.hid hrs2
  clear hns2 hrs2
  go_wp2_with fail
  have e1 := (Ext.refl w4).alloc (.cells #[.slice nC ns3.length ncap3, .slice rC rs3.length rcap3] 25)
  have B5 := Lib.hid (blk_new w4 #[.slice nC ns3.length ncap3, .slice rC rs3.length rcap3] 25 _ rfl)
  have B4 := Lib.hid (((hx2.trans e1).block (lt_of_heap B3.out)).trans B3.out)
  have HA2 := Lib.hid (hat2.ext e1)
  have HA3 := Lib.hid (HA1.out.ext (hx2.trans e1))
  replace hx := hx.trans (hx2.trans e1)
  clear hat2 e1 hx2 HA1 B3
  generalize w4.alloc (.cells #[.slice nC ns3.length ncap3, .slice rC rs3.length rcap3] 25) = W4 at *
  generalize w4.heap.size = X4 at *
  have HGA := Lib.hid (fun u : ExtOf W4 => HG.out.ext (hW.trans (hx.trans u.2)))
  have HHA := Lib.hid (fun u : ExtOf W4 => HH.out.ext (hW.trans (hx.trans u.2)))
  have HAA := Lib.hid (fun u : ExtOf W4 => HA3.out.ext u.2)
  have HAB := Lib.hid (fun u : ExtOf W4 => HA2.out.ext u.2)
  have l0 : ∀ u : ExtOf W4, u.1.cell? _ = _ := fun u => k0 u.1 (hx.trans u.2)
  have l1 : ∀ u : ExtOf W4, u.1.cell? _ = _ := fun u => k1 u.1 (hx.trans u.2)
  have l2 : ∀ u : ExtOf W4, u.1.cell? _ = _ := fun u => k2 u.1 (hx.trans u.2)
  have l3 : ∀ u : ExtOf W4, u.1.cell? _ = _ := fun u => k3 u.1 (hx.trans u.2)
  have l4 : ∀ u : ExtOf W4, u.1.cell? ⟨X3, 0, none⟩ = some (.slice nB ns2.length ncap2) := fun u => u.2.cell (by simp [World.cell?, B4.out])
  have l5 : ∀ u : ExtOf W4, u.1.cell? ⟨X3, 1, none⟩ = some (.slice rB rs2.length rcap2) := fun u => u.2.cell (by simp [World.cell?, B4.out])
  have l6 : ∀ u : ExtOf W4, u.1.cell? ⟨X4, 0, none⟩ = some (.slice nC ns3.length ncap3) := fun u => u.2.cell (by simp [World.cell?, B5.out])
  have l7 : ∀ u : ExtOf W4, u.1.cell? ⟨X4, 1, none⟩ = some (.slice rC rs3.length rcap3) := fun u => u.2.cell (by simp [World.cell?, B5.out])
  have hW4 := Ext.refl W4
  have hxW := hx
  clear hx
  have HSAME : Hid (sameG ⟨nB, ncap2, ns2, rB, rcap2, rs2⟩ ⟨nC, ncap3, ns3, rC, rcap3, rs3⟩ = true) := Lib.hid (by
    have e1 := HN1.out
    have e2 := HN2.out
    have e3 := HR1.out
    have e4 := HR2.out
    unfold sameG sameL
    rw [show (⟨nB, ncap2, ns2, rB, rcap2, rs2⟩ : GraphD).rs = (⟨nC, ncap3, ns3, rC, rcap3, rs3⟩ : GraphD).rs from e3.trans e4.symm, show ns2.map nodeV = ns3.map nodeV from e1.trans e2.symm]
    simp)
  have hr2 : rs2.length ≤ 8796093022208 := Nat.le_trans (ren_rs o HR1.out) HK.out.rl
  have hr3 : rs3.length ≤ 8796093022208 := Nat.le_trans (ren_rs o HR2.out) HK.out.rl
  have hn2 := ren_len o HN1.out
  have hn3 := ren_len o HN2.out
  have b63a : ns2.length ≤ 9223372036854775807 := by omega
  have b63b : rs2.length ≤ 9223372036854775807 := by omega
  have b63c : ns3.length ≤ 9223372036854775807 := by omega
  have b63d : rs3.length ≤ 9223372036854775807 := by omega
  clear k0 k1 k2 k3
  (refine wp_region_ext (W := W4) (by kernel_rfl) (by kernel_rfl) (by with_reducible assumption) ?_; (repeat (go_big_quiet_step (first | (go_at_call 20; with_reducible exact Calls.ext_of (refsame_b ⟨nB, ncap2, ns2, rB, rcap2, rs2⟩ ⟨nC, ncap3, ns3, rC, rcap3, rs3⟩ true _ HSAME.out (HAA.out _) (HAB.out _) b63a b63b b63c b63d (ren_nodeB HK.out o HN1.out) (ren_nodeB HK.out o HN2.out))) | (go_at_call 20; with_reducible exact Calls.ext_of (refsame_is ⟨nA, ncap, ns, rA, rcap, rs⟩ ⟨mA, mcap, ms, qA, qcap, qs⟩ sm _ HSM.out (HGA.out _) (HHA.out _) HK.out HKH.out)) | (go_at_call 21; with_reducible exact Calls.ext_of (same_is ⟨nA, ncap, ns, rA, rcap, rs⟩ ⟨mA, mcap, ms, qA, qcap, qs⟩ sm _ HSM.out (HGA.out _) (HHA.out _) HK.out HKH.out)) | (go_at_call 7; with_reducible exact Calls.ext_of (awake16_any _))))); refine wpQuiet_nil ?_; intro w1 hx)
  go_wp2_with fail
  go_ret
  exact ⟨rfl, hW.trans (hxW.trans hx)⟩
end Go.Proofs.Ytidfibheehcdgaa
