/- The walk of the reference's Renumber. -/
import Derived.Test.YtidfibheehcdgaaGraQ
set_option linter.unusedSimpArgs false
set_option linter.unusedVariables false
namespace Go.Proofs.Ytidfibheehcdgaa
open Go.RowKit Go.Shelf

theorem ret_fail {V w : World} {G : GraphD} {o : List Int} {c : Int} (hc : renE G o = c) (hne : c ≠ 0) (hx : Ext V w) :
    RetN V (renE G o) (renN G o) (renR G o) (.returned (.tuple #[.agg #[.slice none 0 0, .slice none 0 0], .int .i64 c])) w := by
  rw [renN, renR, hc, if_neg hne, if_neg hne]
  exact retN_none rfl rfl hx
theorem lostO_node {o : List Int} {ns : List NodeD} {rs : List (Int × Int)} {k : Nat} (hk : k < o.length) (h : (ns.getD (o.getD k 0).toNat default).fields.any (lostV o) = true) : lostO o ns rs = true := by
  unfold lostO
  rw [Bool.or_eq_true]
  exact .inl (List.any_eq_true.2 ⟨_, getD_mem hk, h⟩)
theorem lostO_root {o : List Int} {ns : List NodeD} {rs : List (Int × Int)} (h : rs.any (lostV o) = true) : lostO o ns rs = true := by
  unfold lostO
  rw [h, Bool.or_true]
theorem lostO_no {o : List Int} {ns : List NodeD} {rs : List (Int × Int)} (h : ∀ i, i < o.length → (ns.getD (o.getD i 0).toNat default).fields.any (lostV o) = false) (h2 : rs.any (lostV o) = false) : lostO o ns rs = false := by
  unfold lostO
  rw [h2, Bool.or_false, List.any_eq_false]
  intro x hx
  obtain ⟨i, hi, rfl⟩ := List.getElem_of_mem hx
  have := h i hi
  rw [show o.getD i 0 = o[i] by simp [hi]] at this
  rw [this]
  simp
set_option maxRecDepth 100000
set_option maxHeartbeats 4000000
theorem refren_x (nA : Option Addr) (ncap : Nat) (ns : List NodeD) (rA : Option Addr) (rcap : Nat) (rs : List (Int × Int)) (A2 : Option Addr) (cap2 : Nat) (o : List Int) (V : World) (hN : NodesAt V nA ns) (hR : SpansAt V rA rs) (hO : IntsAt V A2 o)
    (hn : ns.length ≤ 2513169434843) (hr : rs.length ≤ 8796093022208) (hol : o.length ≤ 1000) (hf : ∀ x ∈ ns, NodeOk x) :
    Calls Try.prog 19 #[.agg #[.slice nA ns.length ncap, .slice rA rs.length rcap], .slice A2 o.length cap2] V (RetN V (renE ⟨nA, ncap, ns, rA, rcap, rs⟩ o) (renN ⟨nA, ncap, ns, rA, rcap, rs⟩ o) (renR ⟨nA, ncap, ns, rA, rcap, rs⟩ o)) := by
  have HN := Lib.hid hN
  have HR := Lib.hid hR
  have HO := Lib.hid hO
  have HF := Lib.hid hf
  have HXV := Lib.hid (show Ext V ((V.alloc (.cells #[.slice nA ns.length ncap, .slice rA rs.length rcap] 25)).alloc (.cells #[.slice none 0 0, .slice none 0 0] 25)) from ((Ext.refl V).alloc _).alloc _)
  have HSZ := Lib.hid (show ((V.alloc (.cells #[.slice nA ns.length ncap, .slice rA rs.length rcap] 25)).alloc (.cells #[.slice none 0 0, .slice none 0 0] 25)).heap.size = V.heap.size + 2 by simp)
  have HG0 := Lib.hid (show ((V.alloc (.cells #[.slice nA ns.length ncap, .slice rA rs.length rcap] 25)).alloc (.cells #[.slice none 0 0, .slice none 0 0] 25)).heap[V.heap.size]? = some (.cells #[.slice nA ns.length ncap, .slice rA rs.length rcap] 25 (0, 0)) from (Below.heap_alloc _ _ _ (by simp)).trans (World.alloc_heap_new _ _))
  have HR0 := Lib.hid (show ((V.alloc (.cells #[.slice nA ns.length ncap, .slice rA rs.length rcap] 25)).alloc (.cells #[.slice none 0 0, .slice none 0 0] 25)).heap[V.heap.size + 1]? = some (.cells #[.slice none 0 0, .slice none 0 0] 25 (0, 0)) from by
    have := World.alloc_heap_new (V.alloc (.cells #[.slice nA ns.length ncap, .slice rA rs.length rcap] 25)) (.cells #[.slice none 0 0, .slice none 0 0] 25)
    simpa using this)
  obtain ⟨b, hb⟩ : ∃ b, rightG ⟨nA, ncap, ns, rA, rcap, rs⟩ = b := ⟨_, rfl⟩
  have HB := Lib.hid hb
  clear hN hR hO hf hb
  go_enter Try.func19, Try.ntmps19
  go_wp2_with fail
  generalize ((V.alloc (.cells #[.slice nA ns.length ncap, .slice rA rs.length rcap] 25)).alloc (.cells #[.slice none 0 0, .slice none 0 0] 25)) = w0 at *
  refine (refright_is ⟨nA, ncap, ns, rA, rcap, rs⟩ b HB.out _ ⟨HN.out.ext HXV.out, HR.out.ext HXV.out⟩ (by simp only; omega) (by simp only; omega) (fun x hx => by have := (HF.out x hx).fl; omega)).mono ?_
  rintro e w1 ⟨rfl, hx1⟩
  have HX1 := Lib.hid (HXV.out.trans hx1)
  have HR1 := Lib.hid ((hx1.block (lt_of_heap HR0.out)).trans HR0.out)
  have HG1 := Lib.hid ((hx1.block (lt_of_heap HG0.out)).trans HG0.out)
  have HS1 := Lib.hid (show V.heap.size + 2 ≤ w1.heap.size by have := hx1.size; have := HSZ.out; omega)
  clear HXV HSZ HG0 HR0 hx1
  cases b
  · have HE := Lib.hid (renE_form (o := o) HB.out)
    have p0 : w1.cell? ⟨V.heap.size + 1, 0, none⟩ = some (.slice none 0 0) := by simp [World.cell?, HR1.out]
    have p1 : w1.cell? ⟨V.heap.size + 1, 1, none⟩ = some (.slice none 0 0) := by simp [World.cell?, HR1.out]
    have p2 : w1.frozen? ⟨V.heap.size + 1, 0, none⟩ = false := by simp [World.frozen?, HR1.out]
    have p3 : w1.frozen? ⟨V.heap.size + 1, 1, none⟩ = false := by simp [World.frozen?, HR1.out]
    go_wp2_with fail
    ((try simp only [Exit.inBlock, Exit.then]); refine bodyPost_ret (v := .tuple #[.agg #[.slice none 0 0, .slice none 0 0], .int .i64 4]) (by simp only [results, Try.results19]; go_simp) rfl ?_)
    exact ret_fail HE.out (by decide) (((HX1.out).setCell (by simp) _).setCell (by simp) _)
  go_wp2_with fail
  go_loopw [6] (fun i wr => ∃ k : Nat, k ≤ o.length ∧ i = .int .i64 k ∧ Hid (Ext w1 wr) ∧ Hid (∀ i, i < k → 0 ≤ o.getD i 0 ∧ o.getD i 0 < ns.length ∧ placeZ o (o.getD i 0) = i)) (fun i _ => o.length - (intOf i).toNat)
  case atStart => exact ⟨0, by omega, rfl, Lib.hid (Ext.refl _), Lib.hid (by omega)⟩
  case round =>
    obtain ⟨k, hk, rfl, hxr, hq⟩ := hrel
    have hsr := hxr.out.size
    have hs1 := HS1.out
    have HRR := Lib.hid ((hxr.out.block (lt_of_heap HR1.out)).trans HR1.out)
    have HGR := Lib.hid ((hxr.out.block (lt_of_heap HG1.out)).trans HG1.out)
    have b0 : wr.cell? ⟨V.heap.size, 0, none⟩ = some (.slice nA ns.length ncap) := by simp [World.cell?, HGR.out]
    by_cases hlt : k < o.length
    rotate_left
    · obtain rfl : k = o.length := by omega
      have HBO := Lib.hid (badO_no hq.out)
      have HQ := Lib.hid hq.out
      have HI0 := Lib.hid (show RenI V wr.heap.size (.slice nA ns.length ncap) (.slice rA rs.length rcap) [] (.slice none 0 0) (wr.alloc (.cells #[.slice none 0 0, .slice none 0 0] 25)) from
        ⟨(Below.heap_alloc _ _ _ (lt_of_heap HGR.out)).trans HGR.out, (Below.heap_alloc _ _ _ (lt_of_heap HRR.out)).trans HRR.out, World.alloc_heap_new _ _, Own.nil _ _ _ _ _, by simp, (HX1.out.trans hxr.out).alloc _, by omega⟩)
      clear hq b0 hxr HRR HGR HR1 HG1 HS1 hs1
      go_wp2_with fail
      generalize wr.alloc (.cells #[.slice none 0 0, .slice none 0 0] 25) = w2 at *
      generalize wr.heap.size = Bo at *
      clear hsr
      go_loopw [8] (fun i wr => ∃ (k : Nat) (cs : List NodeD) (A : Option Addr) (cap : Nat), k ≤ o.length ∧ i = .int .i64 k ∧ Hid (cs.map nodeV = (o.take k).map (turnN o ns)) ∧ Hid (∀ i, i < k → (ns.getD (o.getD i 0).toNat default).fields.any (lostV o) = false) ∧ Hid (RenI V Bo (.slice nA ns.length ncap) (.slice rA rs.length rcap) cs (.slice A cs.length cap) wr)) (fun i _ => o.length - (intOf i).toNat)
      case atStart => exact ⟨0, [], none, 0, by omega, rfl, Lib.hid rfl, Lib.hid (by omega), HI0⟩
      case round =>
        obtain ⟨k, cs, A, cap, hk, rfl, hcs, hnl, hI⟩ := hrel
        clear HI0
        have b0 : wr.cell? ⟨V.heap.size, 0, none⟩ = some (.slice nA ns.length ncap) := by simp [World.cell?, hI.out.g]
        have b1 : wr.cell? ⟨V.heap.size, 1, none⟩ = some (.slice rA rs.length rcap) := by simp [World.cell?, hI.out.g]
        have hvs := hI.out.ext.size
        have hbo := hI.out.bo
        have hbl := lt_of_heap hI.out.out
        by_cases hlt : k < o.length
        rotate_left
        · obtain rfl : k = o.length := by omega
          rw [List.take_length] at hcs
          go_wp2_with fail
          refine (turn_any rA A2 rcap cap2 rs o _ hr (by omega) (HR.out.ext hI.out.ext) (HO.out.ext hI.out.ext)).mono ?_
          rintro e w3 ⟨hx3, hret⟩
          have HI3 := Lib.hid (hI.out.grow hx3)
          have HXW := Lib.hid (hI.out.ext.trans hx3)
          rcases hret with ⟨hl, rfl⟩ | ⟨hl, A5, cap5, rfl, hown⟩
          · have HE := Lib.hid (renE_place HB.out HBO.out (lostO_root (o := o) (ns := ns) hl))
            clear hx3 hl hI b0 b1
            have p0 : w3.cell? ⟨V.heap.size + 1, 0, none⟩ = some (.slice none 0 0) := by simp [World.cell?, HI3.out.r]
            have p1 : w3.cell? ⟨V.heap.size + 1, 1, none⟩ = some (.slice none 0 0) := by simp [World.cell?, HI3.out.r]
            have p2 : w3.frozen? ⟨V.heap.size + 1, 0, none⟩ = false := by simp [World.frozen?, HI3.out.r]
            have p3 : w3.frozen? ⟨V.heap.size + 1, 1, none⟩ = false := by simp [World.frozen?, HI3.out.r]
            go_wp2_with fail
            ((try simp only [Exit.inBlock, Exit.then]); refine bodyPost_ret (v := .tuple #[.agg #[.slice none 0 0, .slice none 0 0], .int .i64 2]) (by simp only [results, Try.results19]; go_simp) rfl ?_)
            exact ret_fail HE.out (by decide) (((HXW.out).setCell (by simp) _).setCell (by simp) _)
          · have HE := Lib.hid (renE_ok HB.out HBO.out (lostO_no hnl.out hl))
            have HFIN := Lib.hid (HI3.out.fin (rs := rs.map (turned o)) (hown.mono hvs) hcs.out)
            have f0 : w3.cell? ⟨Bo, 0, none⟩ = some (.slice A cs.length cap) := by simp [World.cell?, HI3.out.out]
            have f1 : w3.cell? ⟨Bo, 1, none⟩ = some (.slice none 0 0) := by simp [World.cell?, HI3.out.out]
            have f2 : w3.frozen? ⟨Bo, 1, none⟩ = false := by simp [World.frozen?, HI3.out.out]
            have hb3 := lt_of_heap HI3.out.out
            clear hx3 hl hI b0 b1 hown hbl
            have p0 : w3.cell? ⟨V.heap.size + 1, 0, none⟩ = some (.slice none 0 0) := by simp [World.cell?, HI3.out.r]
            have p1 : w3.cell? ⟨V.heap.size + 1, 1, none⟩ = some (.slice none 0 0) := by simp [World.cell?, HI3.out.r]
            have p2 : w3.frozen? ⟨V.heap.size + 1, 0, none⟩ = false := by simp [World.frozen?, HI3.out.r]
            have p3 : w3.frozen? ⟨V.heap.size + 1, 1, none⟩ = false := by simp [World.frozen?, HI3.out.r]
            go_wp2_with fail
            ((try simp only [Exit.inBlock, Exit.then]); refine bodyPost_ret (v := .tuple #[.agg #[.slice A cs.length cap, .slice A5 (rs.map (turned o)).length cap5], .int .i64 0]) (by simp only [results, Try.results19]; go_simp) rfl ?_)
            have := HFIN.out (.slice A5 rs.length cap5) (.slice A cs.length cap) (.slice A5 rs.length cap5)
            rw [renN, renR, HE.out, if_pos rfl, if_pos rfl]
            exact this
        obtain ⟨lb, off, rfl, hc⟩ := HO.out.get (by omega)
        have c1 := hI.out.ext.cell (ints_cell hc hlt)
        obtain ⟨q1, q2, q3⟩ := HQ.out k hlt
        have HMS := Lib.hid (map_snoc (f := turnN o ns) (d := 0) hlt)
        have HLN := Lib.hid (fun h => lostO_node (ns := ns) (rs := rs) hlt h)
        have HNL := Lib.hid (fun (h : (ns.getD (o.getD k 0).toNat default).fields.any (lostV o) = false) => (fun i (hi : i < k + 1) => by
          rcases Nat.lt_or_ge i k with h' | h'
          · exact hnl.out i h'
          · obtain rfl : i = k := by omega
            exact h : ∀ i, i < k + 1 → (ns.getD (o.getD i 0).toNat default).fields.any (lostV o) = false))
        have hclb : cs.length ≤ 1000 := by have := congrArg List.length hcs.out; simp at this; omega
        have ib1 : (k : Int) < (o.length : Int) := by omega
        have ib0 : (0 : Int) ≤ (k : Int) := by omega
        have HTN := Lib.hid (show turnN o ns (o.getD k 0) = ((ns.getD (o.getD k 0).toNat default).kind, (ns.getD (o.getD k 0).toNat default).fields.map (turned o), (ns.getD (o.getD k 0).toNat default).raws) from rfl)
        clear hc hnl q3
        generalize o.getD k 0 = a at *
        obtain ⟨j, rfl⟩ := Int.eq_ofNat_of_zero_le q1
        have hj : j < ns.length := by omega
        rw [Int.toNat_natCast] at HLN HNL HTN
        obtain ⟨nb, noff, rfl, hcn⟩ := HN.out.row.get (by omega)
        obtain ⟨d0, d1, d2⟩ := nodes_cell hcn hj
        have e0 := hI.out.ext.cell d0
        have e1 := hI.out.ext.cell d1
        have e2 := hI.out.ext.cell d2
        have HNA := Lib.hid (HN.out.each _ (getD_mem (d := default) hj))
        have HOK := Lib.hid (HF.out _ (getD_mem (d := default) hj))
        clear hcn d0 d1 d2
        generalize ns.getD j default = x at *
        obtain ⟨xk, xA, xc, fs, yA, yc, ys⟩ := x
        simp only at e0 e1 e2 HLN HNL HTN
        have hfl := HOK.out.fl
        have hrl := HOK.out.rl
        simp only at hfl hrl
        have HI1 := hI
        have hs0 : Ext wr wr := Ext.refl wr
        have l0 : ∀ u : ExtOf wr, u.1.cell? ⟨V.heap.size, 0, none⟩ = some (.slice (some ⟨nb, noff, none⟩) ns.length ncap) := fun u => u.2.cell b0
        have l1 : ∀ u : ExtOf wr, u.1.cell? ⟨lb, off + k, none⟩ = some (.int .i64 j) := fun u => u.2.cell c1
        have l2 : ∀ u : ExtOf wr, u.1.cell? ⟨nb, noff + j * 3, none⟩ = some (.int .i64 xk) := fun u => u.2.cell e0
        have l3 : ∀ u : ExtOf wr, u.1.cell? ⟨nb, noff + j * 3 + 1, none⟩ = some (.slice xA fs.length xc) := fun u => u.2.cell e1
        have l4 : ∀ u : ExtOf wr, u.1.cell? ⟨nb, noff + j * 3 + 2, none⟩ = some (.slice yA ys.length yc) := fun u => u.2.cell e2
        go_wp2_with fail
        (refine wp_region_ord (W := wr) [(0, true), (1, true), (2, true), (3, true), (4, true), (5, true), (6, true), (7, true)] [8] [9] (by kernel_rfl) (by kernel_rfl) (by intro c a d v w h; cases d <;> exact h) (by with_reducible assumption) ?_; simp only [opsOf, List.map_cons, List.map_nil, List.getD_cons_zero, List.getD_cons_succ]; (repeat (go_big_quiet_step (fail))); refine wpQuiet_nil ?_; intro w1 hx; (repeat (refine mid_step (by rfl) ?_; intro K hK; go_simp; refine hK _ _ (by repeat (first | (with_reducible exact Ext.refl _) | (with_reducible assumption) | (with_reducible refine Ext.drew ?_) | (with_reducible refine Ext.alloc ?_ _))) ?_; clear hK K)); refine mid_nil ?_)
        have HI2 := Lib.hid (HI1.out.grow (hx.alloc (.cells #[.int .i64 xk, .slice xA fs.length xc, .slice yA ys.length yc] 34)))
        have hkx : ∀ w', Ext (w1.alloc (.cells #[.int .i64 xk, .slice xA fs.length xc, .slice yA ys.length yc] 34)) w' → w'.cell? ⟨w1.heap.size, 0, none⟩ = some (.int .i64 xk) ∧ w'.cell? ⟨w1.heap.size, 1, none⟩ = some (.slice xA fs.length xc) ∧ w'.cell? ⟨w1.heap.size, 2, none⟩ = some (.slice yA ys.length yc) := fun w' h =>
          ⟨boxed w1 #[.int .i64 xk, .slice xA fs.length xc, .slice yA ys.length yc] 34 0 (.int .i64 xk) rfl w' h, boxed w1 #[.int .i64 xk, .slice xA fs.length xc, .slice yA ys.length yc] 34 1 (.slice xA fs.length xc) rfl w' h, boxed w1 #[.int .i64 xk, .slice xA fs.length xc, .slice yA ys.length yc] 34 2 (.slice yA ys.length yc) rfl w' h⟩
        have HKX := Lib.hid hkx
        have HX2 := Lib.hid (hI.out.ext.trans (hx.alloc (.cells #[.int .i64 xk, .slice xA fs.length xc, .slice yA ys.length yc] 34)))
        clear hkx hx hs0 l0 l1 l2 l3 l4 e0 e1 e2 b0 b1 c1 hI HI1
        go_wp2_with fail
        refine (turn_any xA (some ⟨lb, off, none⟩) xc cap2 fs o _ hfl (by omega) (HNA.out.fields.ext HX2.out) (HO.out.ext HX2.out)).mono ?_
        rintro e w3 ⟨hx3, hret⟩
        have HI3 := Lib.hid (HI2.out.grow hx3)
        have HX3 := Lib.hid (HX2.out.trans hx3)
        have hv3 := HX2.out.size
        obtain ⟨m0, m1, m2⟩ := HKX.out _ hx3
        clear hx3 HKX
        rcases hret with ⟨hl, rfl⟩ | ⟨hl, A5, cap5, rfl, hown⟩
        · have HE := Lib.hid (renE_place HB.out HBO.out (HLN.out hl))
          clear hl
          have p0 : w3.cell? ⟨V.heap.size + 1, 0, none⟩ = some (.slice none 0 0) := by simp [World.cell?, HI3.out.r]
          have p1 : w3.cell? ⟨V.heap.size + 1, 1, none⟩ = some (.slice none 0 0) := by simp [World.cell?, HI3.out.r]
          have p2 : w3.frozen? ⟨V.heap.size + 1, 0, none⟩ = false := by simp [World.frozen?, HI3.out.r]
          have p3 : w3.frozen? ⟨V.heap.size + 1, 1, none⟩ = false := by simp [World.frozen?, HI3.out.r]
          go_wp2_with fail
          ((try simp only [Exit.inBlock, Exit.then]); refine bodyPost_ret (v := .tuple #[.agg #[.slice none 0 0, .slice none 0 0], .int .i64 2]) (by simp only [results, Try.results19]; go_simp) rfl ?_)
          exact ret_fail HE.out (by decide) (((HX3.out).setCell (by simp) _).setCell (by simp) _)
        · have HNL2 := Lib.hid (HNL.out hl)
          have HOW := Lib.hid (show Own 46 2 spanC w3 V.heap.size (.slice A5 (fs.map (turned o)).length cap5) (fs.map (turned o)) from hown.mono hv3)
          have f0 : w3.cell? ⟨Bo, 0, none⟩ = some (.slice A cs.length cap) := by simp [World.cell?, HI3.out.out]
          have hml : (fs.map (turned o)).length = fs.length := List.length_map _
          have HML := Lib.hid hml
          have hv4 := HX3.out.size
          clear hl hown hml HNL HLN HX2 HI2
          go_wp2_with (at_builtin; refine wpList_app_lit rfl (.tmp 76) (.tmp 83) 22 rfl nodeInfo nodeCells rfl (by exact HI3.out.own) [⟨xk, A5, cap5, fs.map (turned o), yA, yc, ys⟩] 1 _ (by simp [nodeC]) (cs.length + 1) 1 (by simp) rfl _ rfl (by first | rfl | simp) (by omega) (by simp [maxLen]; omega) (by exact hv4) ?_; intro A6 cap6 w6 ho6 hg6 ht6; have HI6 := Lib.hid (RenI.app (x := ⟨xk, A5, cap5, fs.map (turned o), yA, yc, ys⟩) (HI3.out.grow ((Ext.refl _).alloc _)) ho6 hg6 (Own.ext HOW.out ((Ext.refl _).alloc _)) ⟨HNA.out.raws, HOK.out.rn, HOK.out.rc⟩); have HX6 : Hid (w6.heap[Bo]? = some (.cells #[.slice A cs.length cap, .slice none 0 0] 25 (0, 0))) := Lib.hid ((hg6.block _ (by have := lt_of_heap HI3.out.out; simp; omega) (HI3.out.own.ne_block HI3.out.out (by decide))).trans ((Below.heap_alloc _ _ _ (lt_of_heap HI3.out.out)).trans HI3.out.out)); clear ho6 hg6 ht6; have f1 : w6.cell? ⟨Bo, 0, none⟩ = some (.slice A cs.length cap) := (by simp [World.cell?, HX6.out]); have f2 : w6.frozen? ⟨Bo, 0, none⟩ = false := (by simp [World.frozen?, HX6.out]))
          go_roundw
          case rel => exact ⟨k + 1, cs ++ [⟨xk, A5, cap5, fs.map (turned o), yA, yc, ys⟩], A6, cap6, by omega, by go_num, Lib.hid (by rw [HMS.out, List.map_append, hcs.out, HTN.out]; rfl), HNL2, Lib.hid (by rw [List.length_append]; exact HI6.out)⟩
          case measure => simp [intOf]; omega
    obtain ⟨lb, off, rfl, hc⟩ := HO.out.get (by omega)
    have c1 := (HX1.out.trans hxr.out).cell (ints_cell hc hlt)
    have HBY := Lib.hid (fun h => badO_yes (n := ns.length) hlt h)
    have HU := Lib.hid (fun (h : 0 ≤ o.getD k 0 ∧ o.getD k 0 < ns.length ∧ placeZ o (o.getD k 0) = k) => (fun i (hi : i < k + 1) => by
      rcases Nat.lt_or_ge i k with h' | h'
      · exact hq.out i h'
      · obtain rfl : i = k := by omega
        exact h : ∀ i, i < k + 1 → 0 ≤ o.getD i 0 ∧ o.getD i 0 < ns.length ∧ placeZ o (o.getD i 0) = i))
    have ib1 : (k : Int) < (o.length : Int) := by omega
    have ib0 : (0 : Int) ≤ (k : Int) := by omega
    have hs0 : Ext wr wr := Ext.refl wr
    have HXR := Lib.hid (HX1.out.trans hxr.out)
    clear hc hq
    generalize o.getD k 0 = a at *
    have l0 : ∀ u : ExtOf wr, u.1.cell? ⟨V.heap.size, 0, none⟩ = some (.slice nA ns.length ncap) := fun u => u.2.cell b0
    have l1 : ∀ u : ExtOf wr, u.1.cell? ⟨lb, off + k, none⟩ = some (.int .i64 a) := fun u => u.2.cell c1
    by_cases h1 : a < 0
    · have hd1 : decide (a < 0) = true := by simpa using h1
      have HE := Lib.hid (renE_arg HB.out (HBY.out (by omega)))
      clear HBY HU h1
      go_wp2_with fail
      (refine wp_region_ext (W := wr) (by kernel_rfl) (by kernel_rfl) (by with_reducible assumption) ?_; (repeat (go_big_quiet_step (fail))); refine wpQuiet_nil ?_; intro w1 hx)
      have hbb := Lib.hid ((hx.block (lt_of_heap HRR.out)).trans HRR.out)
      have p0 : w1.cell? ⟨V.heap.size + 1, 0, none⟩ = some (.slice none 0 0) := by simp [World.cell?, hbb.out]
      have p1 : w1.cell? ⟨V.heap.size + 1, 1, none⟩ = some (.slice none 0 0) := by simp [World.cell?, hbb.out]
      have p2 : w1.frozen? ⟨V.heap.size + 1, 0, none⟩ = false := by simp [World.frozen?, hbb.out]
      have p3 : w1.frozen? ⟨V.heap.size + 1, 1, none⟩ = false := by simp [World.frozen?, hbb.out]
      go_wp2_with fail
      ((try simp only [Exit.inBlock, Exit.then]); refine bodyPost_ret (v := .tuple #[.agg #[.slice none 0 0, .slice none 0 0], .int .i64 1]) (by simp only [results, Try.results19]; go_simp) rfl ?_)
      exact ret_fail HE.out (by decide) (((HXR.out.trans hx).setCell (by simp) _).setCell (by simp) _)
    have hd1 : decide (a < 0) = false := by simpa using h1
    by_cases h2 : a < ns.length
    rotate_left
    · have hd2 : decide ((ns.length : Int) ≤ a) = true := by simpa using h2
      have HE := Lib.hid (renE_arg HB.out (HBY.out (by omega)))
      clear HBY HU h1 h2
      go_wp2_with fail
      (refine wp_region_ext (W := wr) (by kernel_rfl) (by kernel_rfl) (by with_reducible assumption) ?_; (repeat (go_big_quiet_step (fail))); refine wpQuiet_nil ?_; intro w1 hx)
      have hbb := Lib.hid ((hx.block (lt_of_heap HRR.out)).trans HRR.out)
      have p0 : w1.cell? ⟨V.heap.size + 1, 0, none⟩ = some (.slice none 0 0) := by simp [World.cell?, hbb.out]
      have p1 : w1.cell? ⟨V.heap.size + 1, 1, none⟩ = some (.slice none 0 0) := by simp [World.cell?, hbb.out]
      have p2 : w1.frozen? ⟨V.heap.size + 1, 0, none⟩ = false := by simp [World.frozen?, hbb.out]
      have p3 : w1.frozen? ⟨V.heap.size + 1, 1, none⟩ = false := by simp [World.frozen?, hbb.out]
      go_wp2_with fail
      ((try simp only [Exit.inBlock, Exit.then]); refine bodyPost_ret (v := .tuple #[.agg #[.slice none 0 0, .slice none 0 0], .int .i64 1]) (by simp only [results, Try.results19]; go_simp) rfl ?_)
      exact ret_fail HE.out (by decide) (((HXR.out.trans hx).setCell (by simp) _).setCell (by simp) _)
    have hd2 : decide ((ns.length : Int) ≤ a) = false := by simpa using h2
    obtain ⟨z, hz⟩ : ∃ z, placeZ o a = z := ⟨_, rfl⟩
    have HZ := Lib.hid hz
    have HOU := Lib.hid (fun u => HO.out.ext (HXR.out.trans u.2) : ∀ u : ExtOf wr, IntsAt u.1 (some ⟨lb, off, none⟩) o)
    by_cases h3 : z = k
    rotate_left
    · have hd3 : (z != (k : Int)) = true := by simpa using h3
      have HE := Lib.hid (renE_arg HB.out (HBY.out (by rw [hz]; omega)))
      clear HBY HU h1 h2 h3 hz
      go_wp2_with fail
      (refine wp_region_ext (W := wr) (by kernel_rfl) (by kernel_rfl) (by with_reducible assumption) ?_; (repeat (go_big_quiet_step (first | (go_at_call 31; with_reducible exact Calls.ext_of (place_is (some ⟨lb, off, none⟩) cap2 o a z HZ.out _ (by omega) (HOU.out _)))))); refine wpQuiet_nil ?_; intro w1 hx)
      have hbb := Lib.hid ((hx.block (lt_of_heap HRR.out)).trans HRR.out)
      have p0 : w1.cell? ⟨V.heap.size + 1, 0, none⟩ = some (.slice none 0 0) := by simp [World.cell?, hbb.out]
      have p1 : w1.cell? ⟨V.heap.size + 1, 1, none⟩ = some (.slice none 0 0) := by simp [World.cell?, hbb.out]
      have p2 : w1.frozen? ⟨V.heap.size + 1, 0, none⟩ = false := by simp [World.frozen?, hbb.out]
      have p3 : w1.frozen? ⟨V.heap.size + 1, 1, none⟩ = false := by simp [World.frozen?, hbb.out]
      go_wp2_with fail
      ((try simp only [Exit.inBlock, Exit.then]); refine bodyPost_ret (v := .tuple #[.agg #[.slice none 0 0, .slice none 0 0], .int .i64 1]) (by simp only [results, Try.results19]; go_simp) rfl ?_)
      exact ret_fail HE.out (by decide) (((HXR.out.trans hx).setCell (by simp) _).setCell (by simp) _)
    have hd3 : (z != (k : Int)) = false := by simpa using h3
    have HUU := Lib.hid (HU.out ⟨by omega, h2, by rw [hz]; exact h3⟩)
    clear HBY HU h1 h2 h3 hz
    go_wp2_with fail
    (refine wp_region_ext (W := wr) (by kernel_rfl) (by kernel_rfl) (by with_reducible assumption) ?_; (repeat (go_big_quiet_step (first | (go_at_call 31; with_reducible exact Calls.ext_of (place_is (some ⟨lb, off, none⟩) cap2 o a z HZ.out _ (by omega) (HOU.out _)))))); refine wpQuiet_nil ?_; intro w1 hx)
    go_wp2_with fail
    go_roundw
    case rel => exact ⟨k + 1, by omega, by go_num, Lib.hid (hxr.out.trans hx), HUU⟩
    case measure => simp [intOf]; omega
theorem refren_any (G : GraphD) (A2 : Option Addr) (cap2 : Nat) (o : List Int) (V : World) (hG : GraphAt V G) (oG : GraphOk G) (hO : IntsAt V A2 o) (hol : o.length ≤ 1000) :
    Calls Try.prog 19 #[.agg #[.slice G.nA G.ns.length G.ncap, .slice G.rA G.rs.length G.rcap], .slice A2 o.length cap2] V (RetN V (renE G o) (renN G o) (renR G o)) :=
  refren_x _ _ _ _ _ _ A2 cap2 o V hG.nodes hG.roots hO oG.nl oG.rl hol oG.each
end Go.Proofs.Ytidfibheehcdgaa
