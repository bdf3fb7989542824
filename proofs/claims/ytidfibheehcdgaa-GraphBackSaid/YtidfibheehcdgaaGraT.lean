/- The walk of the program's Renumber. -/
import Derived.Test.YtidfibheehcdgaaRenL
set_option linter.unusedSimpArgs false
set_option linter.unusedVariables false
namespace Go.Proofs.Ytidfibheehcdgaa
open Go.RowKit Go.Shelf

theorem right_is (G : GraphD) (b : Bool) (hb : rightG G = b) (V : World) (hG : GraphAt V G) (hn : G.ns.length ≤ 9223372036854775807) (hr : G.rs.length ≤ 9223372036854775807) (hf : ∀ x ∈ G.ns, x.fields.length ≤ 9223372036854775807) :
    Calls Try.prog 11 #[.agg #[.slice G.nA G.ns.length G.ncap, .slice G.rA G.rs.length G.rcap]] V fun e w' => e = .returned (.bool b) ∧ Ext V w' := by
  subst hb; exact right_any G V hG hn hr hf
set_option maxRecDepth 100000
set_option maxHeartbeats 2000000
theorem ren_x (nA : Option Addr) (ncap : Nat) (ns : List NodeD) (rA : Option Addr) (rcap : Nat) (rs : List (Int × Int)) (A2 : Option Addr) (cap2 : Nat) (o : List Int) (V : World) (hN : NodesAt V nA ns) (hR : SpansAt V rA rs) (hO : IntsAt V A2 o)
    (hn : ns.length ≤ 2513169434843) (hr : rs.length ≤ 8796093022208) (hol : o.length ≤ 1000) (how : ∀ x ∈ o, -9223372036854775808 ≤ x ∧ x ≤ 9223372036854775807) (hf : ∀ x ∈ ns, NodeOk x) (hrv : ∀ v ∈ rs, (-9223372036854775808 ≤ v.1 ∧ v.1 ≤ 9223372036854775807) ∧ (-9223372036854775808 ≤ v.2 ∧ v.2 ≤ 9223372036854775807)) :
    Calls Try.prog 18 #[.agg #[.slice nA ns.length ncap, .slice rA rs.length rcap], .slice A2 o.length cap2] V (RetN V (renE ⟨nA, ncap, ns, rA, rcap, rs⟩ o) (renN ⟨nA, ncap, ns, rA, rcap, rs⟩ o) (renR ⟨nA, ncap, ns, rA, rcap, rs⟩ o)) := by
  have HN := Lib.hid hN
  have HR := Lib.hid hR
  have HO := Lib.hid hO
  have HF := Lib.hid hf
  have HRV := Lib.hid hrv
  have HOW := Lib.hid how
  have HXV := Lib.hid (show Ext V ((V.alloc (.cells #[.slice nA ns.length ncap, .slice rA rs.length rcap] 25)).alloc (.cells #[.slice none 0 0, .slice none 0 0] 25)) from ((Ext.refl V).alloc _).alloc _)
  have HSZ := Lib.hid (show ((V.alloc (.cells #[.slice nA ns.length ncap, .slice rA rs.length rcap] 25)).alloc (.cells #[.slice none 0 0, .slice none 0 0] 25)).heap.size = V.heap.size + 2 by simp)
  have HG0 := Lib.hid (show ((V.alloc (.cells #[.slice nA ns.length ncap, .slice rA rs.length rcap] 25)).alloc (.cells #[.slice none 0 0, .slice none 0 0] 25)).heap[V.heap.size]? = some (.cells #[.slice nA ns.length ncap, .slice rA rs.length rcap] 25 (0, 0)) from (Below.heap_alloc _ _ _ (by simp)).trans (World.alloc_heap_new _ _))
  have HR0 := Lib.hid (show ((V.alloc (.cells #[.slice nA ns.length ncap, .slice rA rs.length rcap] 25)).alloc (.cells #[.slice none 0 0, .slice none 0 0] 25)).heap[V.heap.size + 1]? = some (.cells #[.slice none 0 0, .slice none 0 0] 25 (0, 0)) from by
    have := World.alloc_heap_new (V.alloc (.cells #[.slice nA ns.length ncap, .slice rA rs.length rcap] 25)) (.cells #[.slice none 0 0, .slice none 0 0] 25)
    simpa using this)
  obtain ⟨b, hb⟩ : ∃ b, rightG ⟨nA, ncap, ns, rA, rcap, rs⟩ = b := ⟨_, rfl⟩
  have HB := Lib.hid hb
  have hmm := @run_makeMap Try.prog
  clear hN hR hO hf hb how hrv
  go_enter Try.func18, Try.ntmps18
  go_wp2_with fail
  generalize ((V.alloc (.cells #[.slice nA ns.length ncap, .slice rA rs.length rcap] 25)).alloc (.cells #[.slice none 0 0, .slice none 0 0] 25)) = w0 at *
  refine (right_is ⟨nA, ncap, ns, rA, rcap, rs⟩ b HB.out _ ⟨HN.out.ext HXV.out, HR.out.ext HXV.out⟩ (by simp only; omega) (by simp only; omega) (fun x hx => by have := (HF.out x hx).fl; omega)).mono ?_
  rintro e w1 ⟨rfl, hx1⟩
  have HX1 := Lib.hid (HXV.out.trans hx1)
  have HR1 := Lib.hid ((hx1.block (lt_of_heap HR0.out)).trans HR0.out)
  have HG1 := Lib.hid ((hx1.block (lt_of_heap HG0.out)).trans HG0.out)
  have HS1 := Lib.hid (show V.heap.size + 2 ≤ w1.heap.size by have := hx1.size; have := HSZ.out; omega)
  clear HXV HSZ HG0 HR0 hx1
  cases b
  · have HE := Lib.hid (renE_form (o := o) HB.out)
    have p0 : w1.cell? ⟨V.heap.size + 1, 0, none⟩ = some (.slice none 0 0) := by simp [World.cell?, HR1.out]
    have p1 : w1.cell? ⟨V.heap.size + 1, 1, none⟩ = some (.slice none 0 0) := by simp [World.cell?, HR1.out]
    have p2 : w1.frozen? ⟨V.heap.size + 1, 0, none⟩ = false := by simp [World.frozen?, HR1.out]
    have p3 : w1.frozen? ⟨V.heap.size + 1, 1, none⟩ = false := by simp [World.frozen?, HR1.out]
    go_wp2_with fail
    ((try simp only [Exit.inBlock, Exit.then]); refine bodyPost_ret (v := .tuple #[.agg #[.slice none 0 0, .slice none 0 0], .int .i64 4]) (by simp only [results, Try.results18]; go_simp) rfl ?_)
    exact ret_fail HE.out (by decide) (((HX1.out).setCell (by simp) _).setCell (by simp) _)
  have HM0 := Lib.hid (MapOf.made w1)
  go_wp2_with fail
  go_loopw [7, 8, 9, 10, 31] (fun _ _ _ _ i wr => ∃ k : Nat, k ≤ o.length ∧ i = .int .i64 k ∧ Hid (Ext w1 wr) ∧ Hid (MapOf wr w1.heap.size k (pf o k)) ∧ Hid (∀ i, i < k → 0 ≤ o.getD i 0 ∧ o.getD i 0 < ns.length ∧ placeZ o (o.getD i 0) = i)) (fun _ _ _ _ i _ => o.length - (intOf i).toNat)
  case atStart => exact ⟨0, by omega, rfl, Lib.hid ((Ext.refl _).alloc _), Lib.hid (by rw [pf_zero]; exact HM0.out), Lib.hid (by omega)⟩
  case round =>
    obtain ⟨k, hk, rfl, hxr, hM, hq⟩ := hrel
    clear HM0
    have hsr := hxr.out.size
    have hs1 := HS1.out
    have HRR := Lib.hid ((hxr.out.block (lt_of_heap HR1.out)).trans HR1.out)
    have HGR := Lib.hid ((hxr.out.block (lt_of_heap HG1.out)).trans HG1.out)
    have b0 : wr.cell? ⟨V.heap.size, 0, none⟩ = some (.slice nA ns.length ncap) := by simp [World.cell?, HGR.out]
    have b1 : wr.cell? ⟨V.heap.size, 1, none⟩ = some (.slice rA rs.length rcap) := by simp [World.cell?, HGR.out]
    by_cases hlt : k < o.length
    rotate_left
    · obtain rfl : k = o.length := by omega
      have HBO := Lib.hid (badO_no hq.out)
      have HQ := Lib.hid hq.out
      have HX3 := Lib.hid (HX1.out.trans hxr.out)
      clear hq hsr
      go_wp2_with fail
      refine (cloneV_any rA rcap rs _ hr (HR.out.ext HX3.out)).mono ?_
      rintro e w3 ⟨A1, cap1, rfl, hor, hxr2⟩
      have hs3 := hxr2.size
      have hs4 := hxr.out.size
      have HI0 := Lib.hid (show RenC V w3.heap.size (.slice nA ns.length ncap) (.slice rA rs.length rcap) #[.slice none 0 0, .slice none 0 0] rs [] (.slice none 0 0) (.slice A1 rs.length cap1) w1.heap.size o.length (pf o o.length) (w3.alloc (.cells #[.slice none 0 0, .slice A1 rs.length cap1] 25)) from
        ⟨⟨(Below.heap_alloc _ _ _ (by have := lt_of_heap HGR.out; omega)).trans ((hxr2.block (lt_of_heap HGR.out)).trans HGR.out), (Below.heap_alloc _ _ _ (by have := lt_of_heap HRR.out; omega)).trans ((hxr2.block (lt_of_heap HRR.out)).trans HRR.out), World.alloc_heap_new _ _, Own.nil _ _ _ _ _, by simp, (hor.mono (by omega)).ext ((Ext.refl _).alloc _), (HX3.out.trans hxr2).alloc _, by omega⟩, (hM.out.ext hxr2).ext ((Ext.refl _).alloc _), by simp [Apart]⟩)
      clear hor hxr2 hs3 hs4 hM hxr HRR HGR b0 b1 HR1 HG1 HS1 hs1 HX3
      go_wp2_with fail
      generalize w3.alloc (.cells #[.slice none 0 0, .slice A1 rs.length cap1] 25) = w4 at *
      generalize w3.heap.size = Bo at *
      generalize w1.heap.size = bm at *
      go_loopw [13, 65] (fun _ i wr => ∃ (k : Nat) (cs : List NodeD) (A : Option Addr) (cap : Nat), k ≤ o.length ∧ i = .int .i64 k ∧ Hid (cs.map nodeV = (o.take k).map (fun j => nodeV (ns.getD j.toNat default))) ∧ Hid (RenC V Bo (.slice nA ns.length ncap) (.slice rA rs.length rcap) #[.slice none 0 0, .slice none 0 0] rs cs (.slice A cs.length cap) (.slice A1 rs.length cap1) bm o.length (pf o o.length) wr)) (fun _ i _ => o.length - (intOf i).toNat)
      case atStart => exact ⟨0, [], none, 0, by omega, rfl, Lib.hid rfl, HI0⟩
      case round =>
        obtain ⟨k, cs, A, cap, hk, rfl, hcs, hI⟩ := hrel
        clear HI0
        have b0 : wr.cell? ⟨V.heap.size, 0, none⟩ = some (.slice nA ns.length ncap) := by simp [World.cell?, hI.out.base.g]
        have q0 : wr.cell? ⟨Bo, 0, none⟩ = some (.slice A cs.length cap) := by simp [World.cell?, hI.out.base.out]
        have q1 : wr.cell? ⟨Bo, 1, none⟩ = some (.slice A1 rs.length cap1) := by simp [World.cell?, hI.out.base.out]
        have hvs := hI.out.base.ext.size
        have hbo := hI.out.base.bo
        have hbl := lt_of_heap hI.out.base.out
        by_cases hlt : k < o.length
        rotate_left
        · obtain rfl : k = o.length := by omega
          have HCS := Lib.hid (show cs.map nodeV = o.map (fun j => nodeV (ns.getD j.toNat default)) from by have := hcs.out; rwa [List.take_length] at this)
          have HL0 := Lib.hid (RenL.start hI.out)
          have hclb : cs.length ≤ 1000 := by have := congrArg List.length HCS.out; simp at this; omega
          have hws := Nat.le_trans hvs (Nat.le_succ _)
          have HCO := Lib.hid (show ∀ c ∈ cs, c.fields.length ≤ 8796093022208 ∧ ∀ v ∈ c.fields, (-9223372036854775808 ≤ v.1 ∧ v.1 ≤ 9223372036854775807) ∧ (-9223372036854775808 ≤ v.2 ∧ v.2 ≤ 9223372036854775807) from fun c hc => by
            have : nodeV c ∈ cs.map nodeV := List.mem_map.2 ⟨c, hc, rfl⟩
            rw [HCS.out] at this
            obtain ⟨j, hj, e⟩ := List.mem_map.1 this
            have hq := HQ.out
            obtain ⟨i, hi, rfl⟩ := List.mem_iff_getElem.1 hj
            have := hq i hi
            rw [List.getD_eq_getElem?_getD, List.getElem?_eq_getElem hi, Option.getD_some] at this
            have hb := HF.out _ (getD_mem (d := default) (show o[i].toNat < ns.length by omega))
            have e2 := congrArg (fun y : Int × List (Int × Int) × List Int => y.2.1) e
            simp only [nodeV] at e2
            rw [← e2]; exact ⟨hb.fl, hb.fv⟩)
          clear hcs hvs hbo
          go_wp2_with fail
          clear hI b0 q0 q1 hbl
          generalize wr.alloc (.cells #[.slice A1 rs.length cap1] 23) = w5 at *
          go_loopw [15, 95] (fun l i wr => ∃ (k : Nat) (LA : Option Addr) (lcap : Nat), k ≤ cs.length ∧ i = .int .i64 k ∧ l = .slice LA ((k : Nat) + 1) lcap ∧ Hid (RenL V Bo o rs cs A cap A1 cap1 bm (fun _ => 0) ((vls A1 cap1 rs cs).take (k + 1)) (.slice LA (k + 1) lcap) wr)) (fun _ i _ => cs.length - (intOf i).toNat)
          case atStart => exact ⟨0, _, _, by omega, rfl, rfl, HL0⟩
          case round =>
            obtain ⟨k, LA, lcap, hk, rfl, rfl, hI⟩ := hrel
            clear HL0
            have hx0 := hI.out.ext.size
            by_cases hlt : k < cs.length
            rotate_left
            · obtain rfl : k = cs.length := by omega
              have HL1 := Lib.hid (show RenL V Bo o rs cs A cap A1 cap1 bm (qq 0 0) (vls A1 cap1 rs cs) (.slice LA (cs.length + 1) lcap) wr from by
                have := hI.out.re (q' := qq 0 0) (fun i l _ => by simp [qq])
                rwa [List.take_of_length_le (by rw [vls_len]; omega)] at this)
              clear hI hx0
              go_wp2_with fail
              have hll := HL1.out.ext.size
              have hLB := Lib.hid (vls_bd (A1 := A1) (cap1 := cap1) hr (fun c hc => (HCO.out c hc).1))
              have HLV := Lib.hid (vls_val (A1 := A1) (cap1 := cap1) HRV.out (fun c hc => (HCO.out c hc).2))
              go_loopw [107] (fun i wr => ∃ p : Nat, p ≤ cs.length + 1 ∧ i = .int .i64 p ∧ Hid (RenL V Bo o rs cs A cap A1 cap1 bm (qq p 0) (vls A1 cap1 rs cs) (.slice LA (cs.length + 1) lcap) wr) ∧ Hid (∀ (j : Nat) (l : VL), j < p → (vls A1 cap1 rs cs)[j]? = some l → l.xs.any (lostV o) = false)) (fun i _ => cs.length + 1 - (intOf i).toNat)
              case atStart => exact ⟨0, by omega, rfl, HL1, Lib.hid (by omega)⟩
              case round =>
                obtain ⟨p, hp, rfl, hI, hJ⟩ := hrel
                clear HL1
                by_cases hlt : p < cs.length + 1
                rotate_left
                · obtain rfl : p = cs.length + 1 := by omega
                  have HE := Lib.hid (show renE ⟨nA, ncap, ns, rA, rcap, rs⟩ o = 0 from renE_ok HB.out HBO.out (by
                    rw [lost_lists (A1 := A1) (cap1 := cap1) HCS.out]
                    exact lost_none fun i l hl => hJ.out i l (by have := (List.getElem?_eq_some_iff.1 hl).1; rw [vls_len] at this; exact this) hl))
                  have HFIN := Lib.hid (hI.out.fin (ns := ns) (fun i l hl => by
                    have h1 := (List.getElem?_eq_some_iff.1 hl).1
                    rw [vls_len] at h1
                    simp only [qq, if_pos h1]
                    exact hLB.out i l hl) HCS.out (.slice A cs.length cap) (.slice A1 rs.length cap1))
                  have q0 : wr.cell? ⟨Bo, 0, none⟩ = some (.slice A cs.length cap) := by simp [World.cell?, hI.out.out]
                  have q1 : wr.cell? ⟨Bo, 1, none⟩ = some (.slice A1 rs.length cap1) := by simp [World.cell?, hI.out.out]
                  have p0 : wr.cell? ⟨V.heap.size + 1, 0, none⟩ = some (.slice none 0 0) := by simp [World.cell?, hI.out.r]
                  have p1 : wr.cell? ⟨V.heap.size + 1, 1, none⟩ = some (.slice none 0 0) := by simp [World.cell?, hI.out.r]
                  have p2 : wr.frozen? ⟨V.heap.size + 1, 0, none⟩ = false := by simp [World.frozen?, hI.out.r]
                  have p3 : wr.frozen? ⟨V.heap.size + 1, 1, none⟩ = false := by simp [World.frozen?, hI.out.r]
                  clear hI hJ
                  go_wp2_with fail
                  ((try simp only [Exit.inBlock, Exit.then]); refine bodyPost_ret (v := .tuple #[.agg #[.slice A cs.length cap, .slice A1 rs.length cap1], .int .i64 0]) (by simp only [results, Try.results18]; go_simp) rfl ?_)
                  rw [renN, renR, if_pos HE.out, if_pos HE.out, HE.out]
                  exact HFIN.out
                obtain ⟨hb, hoff, rfl, hch⟩ := (own_row (by have := hI.out.heads; rw [← vls_len (A1 := A1) (cap1 := cap1) (rs := rs)] at this; exact this) vlCells (by decide)).1.get (by rw [vls_len]; omega)
                have d0 := vl_cell hch (k := p) (by rw [vls_len]; exact hlt)
                have HP := Lib.hid (show (vls A1 cap1 rs cs)[p]? = some ((vls A1 cap1 rs cs).getD p default) by
                  have : p < (vls A1 cap1 rs cs).length := by rw [vls_len]; exact hlt
                  simp [this])
                have ib1 : (p : Int) < ((cs.length + 1 : Nat) : Int) := by omega
                clear hch
                generalize (vls A1 cap1 rs cs).getD p default = l at *
                obtain ⟨lA, lcap2, xs⟩ := l
                simp only at d0
                have hxl := hLB.out p _ HP.out
                simp only at hxl
                go_wp2_with fail
                clear d0
                go_loopw [113] (fun i wr => ∃ k : Nat, k ≤ xs.length ∧ i = .int .i64 k ∧ Hid (RenL V Bo o rs cs A cap A1 cap1 bm (qq p k) (vls A1 cap1 rs cs) (.slice (some ⟨hb, hoff, none⟩) (cs.length + 1) lcap) wr) ∧ Hid (∀ j : Nat, j < k → lostV o (xs.getD j (0, 0)) = false)) (fun i _ => xs.length - (intOf i).toNat)
                case atStart => exact ⟨0, by omega, rfl, hI, Lib.hid (by omega)⟩
                case round =>
                  obtain ⟨k, hk, rfl, hI2, hJ2⟩ := hrel
                  clear hI
                  by_cases hlk : k < xs.length
                  rotate_left
                  · obtain rfl : k = xs.length := by omega
                    have HN2 := Lib.hid (hI2.out.next HP.out rfl hxl)
                    have HJN := Lib.hid (show ∀ (j : Nat) (l : VL), j < p + 1 → (vls A1 cap1 rs cs)[j]? = some l → l.xs.any (lostV o) = false from fun j l hj hl => by
                      rcases Nat.lt_or_ge j p with h | h
                      · exact hJ.out j l h hl
                      · obtain rfl : j = p := by omega
                        have h5 := HP.out
                        rw [h5] at hl
                        injection hl with hl
                        subst hl
                        exact lost_list hJ2.out)
                    clear hI2 hJ2 hJ
                    go_wp2_with fail
                    go_roundw
                    case rel => exact ⟨p + 1, by omega, by go_num, HN2, HJN⟩
                    case measure => simp [intOf]; omega
                  obtain ⟨g, hg, c0, c1, fz, hgl⟩ := hI2.out.at HP.out hlk (by simp [qq])
                  simp only at hg
                  subst hg
                  have hz1 : (some g : Option Nat) = some g := rfl
                  have HSX := Lib.hid (fun (z : Int) hz => (hI2.out.step (z := z) HP.out rfl hlk hz).grow ((Ext.refl _).alloc (.cells #[.int .i64 (xs.getD k (0, 0)).1, .int .i64 (xs.getD k (0, 0)).2] 46)))
                  have HSM := Lib.hid (fun hz => (hI2.out.grow ((Ext.refl wr).alloc (.cells #[.int .i64 (xs.getD k (0, 0)).1, .int .i64 (xs.getD k (0, 0)).2] 46))).same HP.out hlk hz)
                  have HLS := Lib.hid (fun hz => lost_some (o := o) HP.out hlk hz)
                  have HM := Lib.hid (hI2.out.map.ext ((Ext.refl wr).alloc (.cells #[.int .i64 (xs.getD k (0, 0)).1, .int .i64 (xs.getD k (0, 0)).2] 46)))
                  have ib2 : (k : Int) < (xs.length : Int) := by omega
                  have HJS := Lib.hid (fun (hl : lostV o (xs.getD k (0, 0)) = false) => (fun j (hj : j < k + 1) => by
                    rcases Nat.lt_or_ge j k with h | h
                    · exact hJ2.out j h
                    · obtain rfl : j = k := by omega
                      exact hl : ∀ j : Nat, j < k + 1 → lostV o (xs.getD j (0, 0)) = false))
                  have WF : Hid ((Lit.int .i64 (xs.getD k (0, 0)).2).wf = true) := Lib.hid (WalkArith.wf_i64 (HLV.out p _ HP.out _ (getD_mem hlk)).2)
                  simp only at HSX HSM HLS
                  have hvv := hI2.out.ext.size
                  have hrr := lt_of_heap hI2.out.r
                  have HR2 := Lib.hid hI2.out.r
                  clear hJ2 hz1
                  generalize xs.getD k (0, 0) = x at *
                  obtain ⟨vk, vx⟩ := x
                  simp only at c0 c1
                  by_cases hk2 : vk = 2
                  rotate_left
                  · have hd : (vk != 2) = true := by simpa using hk2
                    have HT := Lib.hid (HSM.out (by simp [turned, hk2]))
                    have HJ3 := Lib.hid (HJS.out (by simp [lostV, hk2]))
                    clear HSX HSM HLS HJS hI2
                    go_wp2_with (at_lookup; refine wpList_map_look rfl (.tmp 119) (.tmp 121) rfl HM.out rfl vx rfl WF.out ?_)
                    refine ⟨⟨_, _, _, _, _, .int .i64 ((k + 1 : Nat) : Int), ⟨k + 1, by omega, rfl, HT, HJ3⟩, rfl, rfl, rfl, rfl, rfl, by go_num⟩, by simp [intOf]; omega⟩
                  subst hk2
                  by_cases hpl : placeZ o vx < 0
                  · have HE := Lib.hid (renE_place HB.out HBO.out ((lost_lists (A1 := A1) (cap1 := cap1) HCS.out).trans (HLS.out (by simp [lostV, hpl]))))
                    have hms : (pf o o.length vx).isSome = false := by rw [pf_some]; simp; omega
                    have hxx := hI2.out.ext
                    clear HSX HSM HLS HJS hpl
                    have p0 : wr.cell? ⟨V.heap.size + 1, 0, none⟩ = some (.slice none 0 0) := by simp [World.cell?, HR2.out]
                    have p1 : wr.cell? ⟨V.heap.size + 1, 1, none⟩ = some (.slice none 0 0) := by simp [World.cell?, HR2.out]
                    have p2 : wr.frozen? ⟨V.heap.size + 1, 0, none⟩ = false := by simp [World.frozen?, HR2.out]
                    have p3 : wr.frozen? ⟨V.heap.size + 1, 1, none⟩ = false := by simp [World.frozen?, HR2.out]
                    go_wp2_with (at_lookup; refine wpList_map_look rfl (.tmp 119) (.tmp 121) rfl HM.out rfl vx rfl WF.out ?_)
                    ((try simp only [Exit.inBlock, Exit.then]); refine bodyPost_ret (v := .tuple #[.agg #[.slice none 0 0, .slice none 0 0], .int .i64 2]) (by simp only [results, Try.results18]; go_simp) rfl ?_)
                    exact ret_fail HE.out (by decide) (((hxx.setCell (by simp) _).setCell (by simp) _).alloc _)
                  have hms : (pf o o.length vx).isSome = true := by rw [pf_some]; simp; omega
                  have hgd : (pf o o.length vx).getD 0 = placeZ o vx := by rw [pf_all, if_neg hpl]; rfl
                  have HT := Lib.hid (HSX.out (placeZ o vx) (by simp [turned]))
                  have HJ3 := Lib.hid (HJS.out (by simp [lostV]; omega))
                  clear HSX HSM HLS HJS hI2
                  go_wp2_with (at_lookup; refine wpList_map_look rfl (.tmp 119) (.tmp 121) rfl HM.out rfl vx rfl WF.out ?_)
                  refine ⟨⟨_, _, _, _, _, .int .i64 ((k + 1 : Nat) : Int), ⟨k + 1, by omega, rfl, HT, HJ3⟩, rfl, rfl, rfl, rfl, rfl, by go_num⟩, by simp [intOf]; omega⟩
            obtain ⟨nb, noff, rfl, hcn⟩ := (own_row hI.out.own nodeCells (by decide)).1.get (by omega)
            obtain ⟨d0, d1, d2⟩ := nodes_cell hcn hlt
            have HSN := Lib.hid (vls_snoc (A1 := A1) (cap1 := cap1) (rs := rs) hlt)
            have hln : ((vls A1 cap1 rs cs).take (k + 1)).length = k + 1 := by rw [List.length_take, vls_len]; omega
            clear hcn
            generalize cs.getD k default = x at *
            obtain ⟨xk, xA, xc, fs, yA, yc, ys⟩ := x
            simp only at d0 d1 d2
            have HOH := Lib.hid (hI.out.heads.ext ((Ext.refl wr).alloc (.cells #[.int .i64 xk, .slice xA fs.length xc, .slice yA ys.length yc] 34)))
            go_wp2_with (at_builtin; refine wpList_app_lit rfl (.tmp 99) (.tmp 102) 58 rfl vlInfo vlCells rfl (by exact HOH.out) [⟨xA, xc, fs⟩] 1 _ rfl (k + 1 + 1) 1 (by rw [hln]; rfl) rfl _ rfl (by simp) (by omega) (by simp [maxLen]; omega) (by simp; omega) ?_; intro A3 cap3 w6 hown3 hgr3 hat3; have HO3 := Lib.hid hown3; have HG3 := Lib.hid hgr3; clear hown3 hgr3 hat3)
            go_roundw
            case rel => exact ⟨k + 1, A3, cap3, by omega, by go_num, rfl, Lib.hid (by rw [← HSN.out]; exact (hI.out.grow (((Ext.refl wr).alloc _).alloc _)).app HO3.out HG3.out)⟩
            case measure => simp [intOf]; omega
        obtain ⟨lb, off, rfl, hc⟩ := HO.out.get (by omega)
        have c1 := hI.out.base.ext.cell (ints_cell hc hlt)
        obtain ⟨z1, z2, z3⟩ := HQ.out k hlt
        have HMS := Lib.hid (map_snoc (f := fun j => nodeV (ns.getD j.toNat default)) (d := 0) hlt)
        have hclb : cs.length ≤ 1000 := by have := congrArg List.length hcs.out; simp at this; omega
        have ib1 : (k : Int) < (o.length : Int) := by omega
        clear hc z3
        generalize o.getD k 0 = a at *
        obtain ⟨j, rfl⟩ := Int.eq_ofNat_of_zero_le z1
        have hj : j < ns.length := by omega
        simp only [Int.toNat_natCast] at HMS
        obtain ⟨nb, noff, rfl, hcn⟩ := HN.out.row.get (by omega)
        obtain ⟨d0, d1, d2⟩ := nodes_cell hcn hj
        have e0 := hI.out.base.ext.cell d0
        have e1 := hI.out.base.ext.cell d1
        have e2 := hI.out.base.ext.cell d2
        have HNA := Lib.hid (HN.out.each _ (getD_mem (d := default) hj))
        have HOK := Lib.hid (HF.out _ (getD_mem (d := default) hj))
        clear hcn d0 d1 d2
        generalize ns.getD j default = x at *
        obtain ⟨xk, xA, xc, fs, yA, yc, ys⟩ := x
        simp only at e0 e1 e2
        have HC1 := Lib.hid (hI.out.grow ((Ext.refl wr).alloc (.cells #[.int .i64 xk, .slice xA fs.length xc, .slice yA ys.length yc] 34)))
        have HBX := Lib.hid (World.alloc_heap_new wr (.cells #[.int .i64 xk, .slice xA fs.length xc, .slice yA ys.length yc] 34))
        have HVX := Lib.hid (show Value.ownBlock (.slice A cs.length cap) ≠ some wr.heap.size from fun e => by have := (World.ownsRow.lt hI.out.base.own _ e).2; omega)
        go_wp2_with fail
        clear hI e0 e1 e2 b0 q0 q1 c1 hvs hbl
        generalize wr.alloc (.cells #[.int .i64 xk, .slice xA fs.length xc, .slice yA ys.length yc] 34) = w5 at *
        generalize wr.heap.size = X at *
        have HS := Lib.hid (show CpS Bo X (.cells #[.slice A cs.length cap, .slice A1 rs.length cap1] 25 (0, 0)) (.cells #[.int .i64 xk, .slice xA fs.length xc, .slice yA ys.length yc] 34 (0, 0)) w5.drew from ⟨HC1.out.base.out, HBX.out⟩)
        have HS0 := Lib.hid (show CpS Bo X (.cells #[.slice A cs.length cap, .slice A1 rs.length cap1] 25 (0, 0)) (.cells #[.int .i64 xk, .slice xA fs.length xc, .slice yA ys.length yc] 34 (0, 0)) w5 from ⟨HC1.out.base.out, HBX.out⟩)
        have l0 : ∀ u : KeptOf w5 (CpS Bo X (.cells #[.slice A cs.length cap, .slice A1 rs.length cap1] 25 (0, 0)) (.cells #[.int .i64 xk, .slice xA fs.length xc, .slice yA ys.length yc] 34 (0, 0))), u.1.cell? ⟨Bo, 0, none⟩ = some (.slice A cs.length cap) := fun u => by have := (u.of HS0.out).1; simp [World.cell?, this]
        have l1 : ∀ u : KeptOf w5 (CpS Bo X (.cells #[.slice A cs.length cap, .slice A1 rs.length cap1] 25 (0, 0)) (.cells #[.int .i64 xk, .slice xA fs.length xc, .slice yA ys.length yc] 34 (0, 0))), u.1.cell? ⟨X, 0, none⟩ = some (.int .i64 xk) := fun u => by have := (u.of HS0.out).2; simp [World.cell?, this]
        have l2 : ∀ u : KeptOf w5 (CpS Bo X (.cells #[.slice A cs.length cap, .slice A1 rs.length cap1] 25 (0, 0)) (.cells #[.int .i64 xk, .slice xA fs.length xc, .slice yA ys.length yc] 34 (0, 0))), u.1.cell? ⟨X, 1, none⟩ = some (.slice xA fs.length xc) := fun u => by have := (u.of HS0.out).2; simp [World.cell?, this]
        have l3 : ∀ u : KeptOf w5 (CpS Bo X (.cells #[.slice A cs.length cap, .slice A1 rs.length cap1] 25 (0, 0)) (.cells #[.int .i64 xk, .slice xA fs.length xc, .slice yA ys.length yc] 34 (0, 0))), u.1.cell? ⟨X, 2, none⟩ = some (.slice yA ys.length yc) := fun u => by have := (u.of HS0.out).2; simp [World.cell?, this]
        refine wp_region_tree (fun w' => ∃ u : KeptOf w5 (CpS Bo X (.cells #[.slice A cs.length cap, .slice A1 rs.length cap1] 25 (0, 0)) (.cells #[.int .i64 xk, .slice xA fs.length xc, .slice yA ys.length yc] 34 (0, 0))), w' = u.1) [0, 1, 2, 3, 4, 5, 7, 8] 5 [(6, [(9, [(10, [(11, [(12, ())])])])])] [13, 14] (by kernel_rfl) (by kernel_rfl) (by intro c a d v w h; cases d <;> exact h) (kept_mk HS.out) ?_
        simp only [opsOf, List.map_cons, List.map_nil, List.getD_cons_zero, List.getD_cons_succ]
        (repeat (go_big_quiet_step (fail)))
        refine wpQuiet_nil ?_
        have HC2 := Lib.hid (HC1.out.grow ((Ext.refl w5).drew))
        have HFA := Lib.hid (HNA.out.fields.ext HC2.out.base.ext)
        have HRA := Lib.hid (HNA.out.raws.ext HC2.out.base.ext)
        have hfl := HOK.out.fl
        have hrl := HOK.out.rl
        simp only at hfl hrl
        clear l0 l1 l2 l3 HC1 HS0 HBX HNA HOK
        generalize w5.drew = w6 at *
        refine tr_one ?_
        (refine op_step (by rfl) ?_; intro K hK; go_simp)
        refine (cloneV_any xA xc fs _ hfl HFA.out).mono ?_
        rintro e w7 ⟨A3, cap3, rfl, ho3, hx3⟩
        refine hK _ _ (kept_mk (HS.out.ext hx3)) ?_
        clear hK K
        refine tr_one ?_
        (refine op_step (by rfl) ?_; intro K hK; go_simp)
        refine (cloneU_any yA yc ys _ hrl (HRA.out.ext hx3)).mono ?_
        rintro e w8 ⟨A4, cap4, rfl, ho4, hx4⟩
        refine hK _ _ (kept_mk (HS.out.ext (hx3.trans hx4))) ?_
        clear hK K
        have HC4 := Lib.hid (HC2.out.grow (hx3.trans hx4))
        have HS4 := Lib.hid (HS.out.ext (hx3.trans hx4))
        have hv2 := HC2.out.base.ext.size
        have HFR := Lib.hid (show ∀ b, blk ⟨xk, A3, cap3, fs, A4, cap4, ys⟩ = some b → w6.heap.size ≤ b from fun b hb => (World.ownsRow.lt ho3 b hb).1)
        have HLT := Lib.hid HC2.out.lt
        have HNN := Lib.hid (show OwnN w8 V.heap.size ⟨xk, A3, cap3, fs, A4, cap4, ys⟩ from ⟨(ho3.mono hv2).ext hx4, ho4.mono (Nat.le_trans hv2 hx3.size)⟩)
        clear ho3 ho4 hx3 hx4 hv2 HC2 HS
        have HC5 := Lib.hid (HC4.out.grow ((Ext.refl _).alloc (.cells #[.int .i64 xk, .slice A3 fs.length cap3, .slice A4 ys.length cap4] 34)))
        have HS5 := Lib.hid (HS4.out.ext ((Ext.refl _).alloc (.cells #[.int .i64 xk, .slice A3 fs.length cap3, .slice A4 ys.length cap4] 34)))
        refine tr_one ?_
        (refine op_step (by rfl) ?_; intro K hK; go_simp; refine hK _ _ (kept_mk HS4.out) ?_; clear hK K)
        refine tr_one ?_
        (refine op_step (by rfl) ?_; intro K hK; go_simp; refine hK _ _ (kept_mk HS5.out) ?_; clear hK K)
        refine tr_one ?_
        refine op_step (by rfl) ?_
        intro K hK
        refine wp_app (.tmp 75) (.tmp 85) 22 rfl nodeInfo nodeCells rfl HC5.out.base.own ⟨w8.heap.size, 0, none⟩ 1 [⟨xk, A3, cap3, fs, A4, cap4, ys⟩] (cs.length + 1) 1 (by simp) rfl rfl (row_lit w8 _ rfl nodeCells (by decide)) (by omega) (by simp [maxLen]; omega) (by have := HC5.out.base.ext.size; exact this) ?_
        intro A5 cap5 w9 ho5 hg5 ht5
        have hs5 : CpS Bo X (.cells #[.slice A cs.length cap, .slice A1 rs.length cap1] 25 (0, 0)) (.cells #[.int .i64 xk, .slice xA fs.length xc, .slice yA ys.length yc] 34 (0, 0)) w9 :=
          ⟨(hg5.block _ (lt_of_heap HS5.out.1) (HC5.out.base.own.ne_block HS5.out.1 (by decide))).trans HS5.out.1, (hg5.block _ (lt_of_heap HS5.out.2) (fun e => HVX.out e.symm)).trans HS5.out.2⟩
        have HC6 := Lib.hid (RenC.app HC5.out ho5 hg5 (HNN.out.ext ((Ext.refl _).alloc _)) HLT.out HFR.out)
        refine hK _ _ (kept_mk hs5) ?_
        clear hK K ho5 hg5 ht5
        have f1 : w9.cell? ⟨Bo, 0, none⟩ = some (.slice A cs.length cap) := by simp [World.cell?, hs5.1]
        have f2 : w9.frozen? ⟨Bo, 0, none⟩ = false := by simp [World.frozen?, hs5.1]
        clear hs5
        refine tr_nil ?_
        (try simp only [opsOf, List.map_cons, List.map_nil, List.getD_cons_zero, List.getD_cons_succ])
        go_wp2_with fail
        go_roundw
        case rel => exact ⟨k + 1, cs ++ [⟨xk, A3, cap3, fs, A4, cap4, ys⟩], A5, cap5, by omega, by go_num, Lib.hid (by rw [HMS.out, List.map_append, hcs.out]; rfl), Lib.hid (by rw [List.length_append]; exact HC6.out)⟩
        case measure => simp [intOf]; omega
    obtain ⟨lb, off, rfl, hc⟩ := HO.out.get (by omega)
    have c1 := (HX1.out.trans hxr.out).cell (ints_cell hc hlt)
    have HBY := Lib.hid (fun h => badO_yes (n := ns.length) hlt h)
    have HTW := Lib.hid (pf_twice hlt)
    have HST := Lib.hid (fun h => pf_step hlt h)
    have WF : Hid ((Lit.int .i64 (o.getD k 0)).wf = true) := Lib.hid (WalkArith.wf_i64 (HOW.out _ (getD_mem hlt)))
    have HU := Lib.hid (fun (h : 0 ≤ o.getD k 0 ∧ o.getD k 0 < ns.length ∧ placeZ o (o.getD k 0) = k) => (fun i (hi : i < k + 1) => by
      rcases Nat.lt_or_ge i k with h' | h'
      · exact hq.out i h'
      · obtain rfl : i = k := by omega
        exact h : ∀ i, i < k + 1 → 0 ≤ o.getD i 0 ∧ o.getD i 0 < ns.length ∧ placeZ o (o.getD i 0) = i))
    have ib1 : (k : Int) < (o.length : Int) := by omega
    have HXR := Lib.hid (HX1.out.trans hxr.out)
    clear hc hq
    generalize o.getD k 0 = a at *
    by_cases h3 : placeZ o a = k
    rotate_left
    · have htw : (pf o k a).isSome = true := by rw [HTW.out]; simpa using h3
      have HE := Lib.hid (renE_arg HB.out (HBY.out (by omega)))
      clear HBY HU h3 HST HTW
      have p0 : wr.cell? ⟨V.heap.size + 1, 0, none⟩ = some (.slice none 0 0) := by simp [World.cell?, HRR.out]
      have p1 : wr.cell? ⟨V.heap.size + 1, 1, none⟩ = some (.slice none 0 0) := by simp [World.cell?, HRR.out]
      have p2 : wr.frozen? ⟨V.heap.size + 1, 0, none⟩ = false := by simp [World.frozen?, HRR.out]
      have p3 : wr.frozen? ⟨V.heap.size + 1, 1, none⟩ = false := by simp [World.frozen?, HRR.out]
      go_wp2_with (at_lookup; refine wpList_map_look rfl (.tmp 37) (.tmp 38) rfl hM.out rfl a rfl WF.out ?_)
      ((try simp only [Exit.inBlock, Exit.then]); refine bodyPost_ret (v := .tuple #[.agg #[.slice none 0 0, .slice none 0 0], .int .i64 1]) (by simp only [results, Try.results18]; go_simp) rfl ?_)
      exact ret_fail HE.out (by decide) (((HXR.out).setCell (by simp) _).setCell (by simp) _)
    have htw : (pf o k a).isSome = false := by rw [HTW.out]; simpa using h3
    by_cases h1 : a < 0
    · have hd1 : decide (a < 0) = true := by simpa using h1
      have HE := Lib.hid (renE_arg HB.out (HBY.out (by omega)))
      clear HBY HU h3 HST HTW h1
      have p0 : wr.cell? ⟨V.heap.size + 1, 0, none⟩ = some (.slice none 0 0) := by simp [World.cell?, HRR.out]
      have p1 : wr.cell? ⟨V.heap.size + 1, 1, none⟩ = some (.slice none 0 0) := by simp [World.cell?, HRR.out]
      have p2 : wr.frozen? ⟨V.heap.size + 1, 0, none⟩ = false := by simp [World.frozen?, HRR.out]
      have p3 : wr.frozen? ⟨V.heap.size + 1, 1, none⟩ = false := by simp [World.frozen?, HRR.out]
      go_wp2_with (at_lookup; refine wpList_map_look rfl (.tmp 37) (.tmp 38) rfl hM.out rfl a rfl WF.out ?_)
      ((try simp only [Exit.inBlock, Exit.then]); refine bodyPost_ret (v := .tuple #[.agg #[.slice none 0 0, .slice none 0 0], .int .i64 1]) (by simp only [results, Try.results18]; go_simp) rfl ?_)
      exact ret_fail HE.out (by decide) (((HXR.out).setCell (by simp) _).setCell (by simp) _)
    have hd1 : decide (a < 0) = false := by simpa using h1
    by_cases h2 : a < ns.length
    rotate_left
    · have hd2 : decide ((ns.length : Int) ≤ a) = true := by simpa using h2
      have HE := Lib.hid (renE_arg HB.out (HBY.out (by omega)))
      clear HBY HU h3 HST HTW h1 h2
      have p0 : wr.cell? ⟨V.heap.size + 1, 0, none⟩ = some (.slice none 0 0) := by simp [World.cell?, HRR.out]
      have p1 : wr.cell? ⟨V.heap.size + 1, 1, none⟩ = some (.slice none 0 0) := by simp [World.cell?, HRR.out]
      have p2 : wr.frozen? ⟨V.heap.size + 1, 0, none⟩ = false := by simp [World.frozen?, HRR.out]
      have p3 : wr.frozen? ⟨V.heap.size + 1, 1, none⟩ = false := by simp [World.frozen?, HRR.out]
      go_wp2_with (at_lookup; refine wpList_map_look rfl (.tmp 37) (.tmp 38) rfl hM.out rfl a rfl WF.out ?_)
      ((try simp only [Exit.inBlock, Exit.then]); refine bodyPost_ret (v := .tuple #[.agg #[.slice none 0 0, .slice none 0 0], .int .i64 1]) (by simp only [results, Try.results18]; go_simp) rfl ?_)
      exact ret_fail HE.out (by decide) (((HXR.out).setCell (by simp) _).setCell (by simp) _)
    have hd2 : decide ((ns.length : Int) ≤ a) = false := by simpa using h2
    have HUU := Lib.hid (HU.out ⟨by omega, h2, h3⟩)
    have HPF := Lib.hid (HST.out h3)
    clear HBY HU h3 HST HTW h1 h2
    go_wp2_with (first
      | (at_lookup; refine wpList_map_look rfl (.tmp 37) (.tmp 38) rfl hM.out rfl a rfl WF.out ?_)
      | (at_mapUpdate; refine wpList_map_put rfl (.tmp 55) (.tmp 56) (.tmp 57) rfl hM.out rfl (by unfold maxLen; omega) a k rfl rfl WF.out (WalkArith.wf_i64 ⟨by omega, by omega⟩) ?_; intro w6 hm6 hg6; have HM6 := Lib.hid hm6; have HX6 : Hid (Ext w1 w6) := Lib.hid (Below.grown hxr.out hg6 hxr.out.size (fun j hj => by injection hj with hj; omega)); clear hm6 hg6))
    go_roundw
    case rel => exact ⟨k + 1, by omega, by go_num, HX6, Lib.hid (by rw [← HPF.out]; exact HM6.out), HUU⟩
    case measure => simp [intOf]; omega
end Go.Proofs.Ytidfibheehcdgaa
