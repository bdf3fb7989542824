/- Merged by program (merge.py) out of: LoL, LoM, LoN, LoO, LoP, CpA, HdP. -/
import Derived.Test.YtkcpfimhbogdcaaMo27
import Derived.Test.YtkcpfimhbogdcaaMo26
import Derived.Test.YtkcpfimhbogdcaaMo14
import Derived.Test.YtkcpfimhbogdcaaMo11
/- A living part: the walk of los.Sweep. -/
set_option linter.unusedSimpArgs false
set_option linter.unusedVariables false
namespace Go.Proofs.Ytkcpfimhbogdcaa
open Go.RowKit Go.Shelf

/-- What Sweep comes to. -/
def SweepPost (Bo : Nat) (V : World) (b p : Nat) (A : Option Addr) (cap : Nat) (ws : List Int) (tb fr : List (Int × Int)) (e : Ending) (w' : World) : Prop :=
  ∃ (gA : Option Addr) (gc m : Nat), m = (goneL ws tb).length ∧ e = .returned (.tuple #[.slice gA m gc, .int .i64 0]) ∧ Own 23 2 spanC w' V.heap.size (.slice gA m gc) (goneL ws tb) ∧
    LoTo Bo V b p A cap ws.length ⟨clearsL ws (dropsL tb (goneL ws tb)), dropsL tb (goneL ws tb), givesL fr (goneL ws tb), 0⟩ w'
set_option maxRecDepth 100000
set_option maxHeartbeats 4000000
section
variable {Bo : Nat} {b p : Nat} {A : Option Addr} {cap : Nat} {tA : Option Addr} {tc : Nat} {fA : Option Addr} {fc : Nat}
theorem losweep_any (ws : List Int) (tb fr : List (Int × Int)) (top : Int) (V : World) (hb : LoB Bo V b p A cap tA tc fA fc ⟨ws, tb, fr, top⟩) (hlen : tb.length ≤ 100000) (hlen2 : fr.length ≤ 100000)
    (hhe : ∀ x ∈ tb, headE (some ws) x.1 = 0) (htb : ∀ x ∈ tb, (-9223372036854775808 ≤ x.1 ∧ x.1 ≤ 9223372036854775807)) :
    Calls Try.prog 50 #[.pointer (some ⟨b, 0, none⟩)] V (SweepPost Bo V b p A cap ws tb fr) := by
  have HW := hb.pers
  have HBo := Lib.hid hb.base
  have HL := Lib.hid hlen
  have HL2 := Lib.hid hlen2
  have HHE := Lib.hid hhe
  have HTB := Lib.hid htb
  have HD := Lib.hid (lodead_no (p := some ⟨p, 0, none⟩) (tA := tA) (tb := tb) (tc := tc) (fA := fA) (fr := fr) (fc := fc) (top := top) b _ HW.here.blk)
  clear hb hlen hlen2 hhe htb
  go_enter Try.func50, Try.ntmps50
  go_wp2_with fail
  refine HD.out.mono ?_
  rintro e wa ⟨rfl, hx⟩
  (replace HW := HW.re hx)
  have HX := Lib.hid hx
  clear hx
  have gB := (LoB.box HW).cells
  ((first | refine at_baseC (W := wa) ?_ | refine at_base (W := wa) ?_); intro uq; (try go_wp2_with fail))
  have hbase := uq.2
  have hsz := HX.out.size
  go_loopw [4, 6, 7, 8, 22] (fun g _ _ _ i wr => ∃ (gA : Option Addr) (gc k : Nat), k ≤ tb.length ∧ g = .slice gA (goneL ws (tb.take k)).length gc ∧ i = .int .i64 k ∧ Hid (Own 23 2 spanC wr wa.heap.size (.slice gA (goneL ws (tb.take k)).length gc) (goneL ws (tb.take k))) ∧ Ext wa wr) (fun _ _ _ _ i _ => tb.length - (intOf i).toNat)
  case atStart => exact ⟨none, 0, 0, by omega, rfl, rfl, Lib.hid (Own.nil _ _ _ _ _), hbase⟩
  case round =>
    obtain ⟨gA, gc, k, hk, rfl, rfl, HO, hxr⟩ := hrel
    clear uq hbase gB
    replace HW := HW.re hxr
    have HXR := Lib.hid hxr
    clear hxr
    by_cases hlt : k < tb.length
    rotate_left
    · obtain rfl : k = tb.length := by omega
      simp only [List.take_length] at HO ⊢
      have hgl : (goneL ws tb).length ≤ 100000 := (by have h1 := List.length_filter_le (unmB ws) tb; have h3 := HL.out; simp only [goneL]; omega)
      have HGL := Lib.hid hgl
      have HTW : Hid (Two b (Value.slice A ws.length cap).ownBlock V wr) := Lib.hid (Two.of_ext (HX.out.trans HXR.out))
      have HW0 := Lib.hid HW.here
      clear HW HXR hgl hlt
      obtain ⟨wo, rfl⟩ : ∃ wo : World, wo = wr := ⟨_, rfl⟩
      go_wp2_with fail
      go_loopw [10, 49] (fun _ i wz => ∃ (tA2 : Option Addr) (tc2 : Nat) (fA2 : Option Addr) (fc2 k : Nat), k ≤ (goneL ws tb).length ∧ i = .int .i64 k ∧ Hid (LoB Bo wz b p A cap tA2 tc2 fA2 fc2 ⟨ws, dropsL tb ((goneL ws tb).take k), givesL fr ((goneL ws tb).take k), top⟩) ∧ Hid (Own 23 2 spanC wz wa.heap.size (.slice gA (goneL ws tb).length gc) (goneL ws tb)) ∧ Hid (Two b (Value.slice A ws.length cap).ownBlock V wz)) (fun _ i _ => (goneL ws tb).length - (intOf i).toNat)
      case atStart => exact ⟨tA, tc, fA, fc, 0, by omega, rfl, HW0, HO, HTW⟩
      case round =>
        obtain ⟨tA2, tc2, fA2, fc2, k, hk, rfl, HLB, HOG, HTO⟩ := hrel
        clear HW0 HO HTW
        by_cases hlt : k < (goneL ws tb).length
        rotate_left
        · obtain rfl : k = (goneL ws tb).length := by omega
          simp only [List.take_length] at HLB
          have hDD : ∃ td, dropsL tb (goneL ws tb) = td := ⟨_, rfl⟩
          obtain ⟨td, hDD⟩ := hDD
          have hGG : ∃ fg, givesL fr (goneL ws tb) = fg := ⟨_, rfl⟩
          obtain ⟨fg, hGG⟩ := hGG
          rw [hDD, hGG] at HLB
          have HDL : Hid (td.length ≤ 100000) := Lib.hid (by have h1 := dropsL_len (goneL ws tb) tb; have h2 := HL.out; rw [hDD] at h1; omega)
          have HTD : Hid (∀ x ∈ td, -9223372036854775808 ≤ x.1 ∧ x.1 ≤ 9223372036854775807) := Lib.hid (fun x hx => HTB.out x (dropsL_mem (l := goneL ws tb) (by rw [hDD]; exact hx)))
          have HDD := Lib.hid hDD
          have HGG := Lib.hid hGG
          clear hDD hGG hlt
          obtain ⟨wp, rfl⟩ : ∃ wp : World, wp = wr := ⟨_, rfl⟩
          have gB := (cells_of HLB.out.blk).1
          go_wp2_with fail
          clear gB
          go_loopw [12, 13, 14, 85] (fun _ _ _ i wz => ∃ k : Nat, k ≤ td.length ∧ i = .int .i64 k ∧ Hid (LoB Bo wz b p A cap tA2 tc2 fA2 fc2 ⟨clearsL ws (td.take k), td, fg, top⟩) ∧ Hid (Own 23 2 spanC wz wa.heap.size (.slice gA (goneL ws tb).length gc) (goneL ws tb)) ∧ Hid (Two b (Value.slice A ws.length cap).ownBlock V wz)) (fun _ _ _ i _ => td.length - (intOf i).toNat)
          case atStart => exact ⟨0, by omega, rfl, HLB, HOG, HTO⟩
          case round =>
            obtain ⟨k, hk, rfl, HLC, HOH, HTP⟩ := hrel
            clear HLB HOG HTO
            by_cases hlt : k < td.length
            rotate_left
            · obtain rfl : k = td.length := by omega
              have gB := (cells_of HLC.out.blk).1
              have fB := (cells_of HLC.out.blk).2
              go_wp2_with fail
              ((try simp only [Exit.inBlock, Exit.then]); refine bodyPost_ret (v := .tuple #[.slice gA (goneL ws tb).length gc, .int .i64 0]) (by simp only [results, Try.results50]; go_simp) rfl ?_)
              have h1 := HLC.out.setTop 0
              simp only [List.take_length] at h1
              exact ⟨gA, gc, _, rfl, rfl, (HOH.out.setOther HLC.out.blk (by decide)).mono hsz, ⟨⟨tA2, tc2, fA2, fc2, by rw [HDD.out, HGG.out]; exact h1⟩, HTP.out.set 4 _⟩⟩
            obtain ⟨lb, rfl, -, -⟩ := own_some HLC.out.tab (by intro e; simp only at e; rw [e] at hlt; simp at hlt)
            obtain ⟨lb', off, e0, hc⟩ := HLC.out.tab.spans.get (row_ne hlt)
            simp only [Option.some.injEq, Addr.mk.injEq, and_true] at e0
            obtain ⟨rfl, rfl⟩ := e0
            obtain ⟨j1, j2⟩ := spans_cell hc hlt
            simp only [Nat.zero_add] at j1 j2
            have hxb := HTD.out _ (getD_mem (d := (0, 0)) hlt)
            have ib1 : (k : Int) < (td.length : Int) := by omega
            have HTK : Hid (td.take (k + 1) = td.take k ++ [td.getD k (0, 0)]) := Lib.hid (take_snoc hlt)
            clear hc
            generalize td.getD k (0, 0) = x at *
            obtain ⟨xa, xs⟩ := x
            simp only at j1 j2 hxb
            generalize hW : clearsL ws (td.take k) = wk at *
            have HWK := Lib.hid hW
            clear hW
            obtain ⟨⟨hk', hf, hr, hm, hc⟩, hh⟩ : ∃ h, headH (some wk) xa = h := ⟨_, rfl⟩
            obtain ⟨er, her⟩ : ∃ e, headE (some wk) xa = e := ⟨_, rfl⟩
            have HHH := Lib.hid hh
            have HHB := Lib.hid hxb
            have HH0 := Lib.hid her
            have HWN : Hid (wk.length = ws.length) := Lib.hid (by rw [← HWK.out]; exact clearsL_len _ _)
            clear hh hxb her
            have HW := HLC.out.pers
            have HOP := pers_own HOH.out
            have hS := pers_new wr #[.int .i64 xa, .int .i64 xs] 23 _ rfl
            have hxs := (Ext.refl wr).alloc (.cells #[.int .i64 xa, .int .i64 xs] 23)
            go_wp2_with fail
            (replace HW := HW.re hxs; replace HOP := HOP.re hxs)
            replace HTP := Lib.hid (HTP.out.trans (Two.of_ext hxs))
            generalize wr.alloc (.cells #[.int .i64 xa, .int .i64 xs] 23) = W1 at *
            generalize wr.heap.size = X at *
            clear j1 j2 ib1 hxs HLC HOH
            have hyd := (Ext.refl W1).drew
            have hGP : Box2S b #[.bool true, .pointer (some ⟨p, 0, none⟩), .slice (some ⟨lb, 0, none⟩) td.length tc2, .slice fA2 fg.length fc2, .int .i64 top] 102 X #[.int .i64 xa, .int .i64 xs] 23 W1.drew := ⟨(HW.at hyd).blk, hS.at hyd⟩
            have gB := hGP.one
            have g1 := hGP.two
            (refine wp_region_gp (w := W1) (fun w' => ∃ u : KeptOf (W1).drew (Box2S b #[.bool true, .pointer (some ⟨p, 0, none⟩), .slice (some ⟨lb, 0, none⟩) td.length tc2, .slice fA2 fg.length fc2, .int .i64 top] 102 X #[.int .i64 xa, .int .i64 xs] 23), w' = u.1) (.rd [0, 1, 2, 3, 4, 5] (.fk 6 (.rd [7, 8, 9] (.one 10 (.one 11 (.rd [12] .tl)))) 10 (.one 6 (.rd [7, 8, 9] (.one 11 (.rd [12] .tl)))))) [] (by kernel_rfl) (by kernel_rfl) (by intro c a d v w h; first | exact h | (cases d <;> first | exact h | (cases h; done) | cases h.1.1 | cases h.1)) (kept_mk hGP) ?_)
            (refine gp_rd ?_; (try simp only [opsOf, List.map_cons, List.map_nil, List.getD_cons_zero, List.getD_cons_succ]); (repeat (go_big_quiet_step (fail))); refine wpQuiet_nil ?_)
            clear gB g1 hGP
            (replace HW := HW.re hyd; replace hS := hS.re hyd; replace HOP := HOP.re hyd)
            replace HTP := Lib.hid (HTP.out.trans (Two.of_ext hyd))
            clear hyd
            generalize W1.drew = W2 at *
            refine gp_fk ?_ ?_
            · (refine gp_one (by (try simp only [List.getD_cons_succ, List.getD_cons_zero]); rfl) (by rfl) ?_; intro K hK; go_simp)
              refine (ohead_is (some ⟨p, 0, none⟩) (some wk) xa ⟨hk', hf, hr, hm, hc⟩ er HHH.out HH0.out _ HW.here.ar.p HHB.out).mono ?_
              rintro e w3 ⟨rfl, hx⟩
              refine hK _ _ _ (fun _ h => h) (kept_mk ⟨(HW.at hx).blk, hS.at hx⟩) ?_
              have HXX := Lib.hid hx
              clear hK K hx
              (refine gp_rd ?_; (try simp only [opsOf, List.map_cons, List.map_nil, List.getD_cons_zero, List.getD_cons_succ]); (repeat (go_big_quiet_step (fail))); refine wpQuiet_nil ?_)
              (refine gp_one (by (try simp only [List.getD_cons_succ, List.getD_cons_zero]); rfl) (by rfl) ?_; intro K hK; go_simp)
              refine hK _ _ _ (fun _ h => h) (kept_mk ⟨(HW.at (HXX.out.alloc _)).blk, hS.at (HXX.out.alloc _)⟩) ?_
              clear hK K
              (refine gp_one (by (try simp only [List.getD_cons_succ, List.getD_cons_zero]); rfl) (by rfl) ?_; intro K hK; go_simp)
              refine hK _ _ _ (fun _ h => h) (kept_mk ⟨(HW.at (HXX.out.alloc _)).blk, hS.at (HXX.out.alloc _)⟩) ?_
              have hH := pers_new w3 #[.int .i64 hk', .int .i64 hf, .int .i64 hr, .bool hm, .int .i64 hc] 47 _ rfl
              have HY := Lib.hid HXX.out.size
              replace HXX := Lib.hid (HXX.out.alloc (.cells #[.int .i64 hk', .int .i64 hf, .int .i64 hr, .bool hm, .int .i64 hc] 47))
              clear hK K
              generalize w3.alloc (.cells #[.int .i64 hk', .int .i64 hf, .int .i64 hr, .bool hm, .int .i64 hc] 47) = W5 at *
              generalize w3.heap.size = Y at *
              ((refine gp_rd ?_; (try simp only [opsOf, List.map_cons, List.map_nil, List.getD_cons_zero, List.getD_cons_succ]); (repeat (go_big_quiet_step (fail))); refine wpQuiet_nil ?_); (refine gp_tl ?_; (try simp only [opsOf, List.map_cons, List.map_nil, List.getD_cons_zero, List.getD_cons_succ])); have gH := (cells_of hH.here).1; have fH := (cells_of hH.here).2; go_wp2_with fail; have hb2 : ((W5.setCell ⟨Y, 3, none⟩ (.bool false)).setCell ⟨Y, 4, none⟩ (.int .i64 0)).heap[Y]? = some (.cells #[.int .i64 hk', .int .i64 hf, .int .i64 hr, .bool false, .int .i64 0] 47 (0, 0)) := blk_set (i := 4) (blk_set (i := 3) hH.here (.bool false)) (.int .i64 0); have hx7 := (HXX.out.setCell (p := ⟨Y, 3, none⟩) HY.out (.bool false)).setCell (p := ⟨Y, 4, none⟩) HY.out (.int .i64 0); (replace HW := HW.re hx7; replace hS := hS.re hx7; replace HOP := HOP.re hx7); replace HTP := Lib.hid (HTP.out.trans (Two.of_ext hx7)); clear gH fH hx7 hH HXX HY; generalize (W5.setCell ⟨Y, 3, none⟩ (.bool false)).setCell ⟨Y, 4, none⟩ (.int .i64 0) = W7 at *; have hH := pers_blk hb2; clear hb2; have hyd := (Ext.refl W7).drew; have hGP : Box3S b #[.bool true, .pointer (some ⟨p, 0, none⟩), .slice (some ⟨lb, 0, none⟩) td.length tc2, .slice fA2 fg.length fc2, .int .i64 top] 102 X #[.int .i64 xa, .int .i64 xs] 23 Y #[.int .i64 hk', .int .i64 hf, .int .i64 hr, .bool false, .int .i64 0] 47 W7.drew := ⟨(HW.at hyd).blk, hS.at hyd, hH.at hyd⟩; have gB := hGP.one; have gS := hGP.two; have gH := hGP.three; (refine wp_region_gp (w := W7) (fun w' => ∃ u : KeptOf (W7).drew (Box3S b #[.bool true, .pointer (some ⟨p, 0, none⟩), .slice (some ⟨lb, 0, none⟩) td.length tc2, .slice fA2 fg.length fc2, .int .i64 top] 102 X #[.int .i64 xa, .int .i64 xs] 23 Y #[.int .i64 hk', .int .i64 hf, .int .i64 hr, .bool false, .int .i64 0] 47), w' = u.1) (.rd [0, 1, 2, 3, 4, 5, 6] (.bar [] (.one 7 .tl))) [7] (by kernel_rfl) (by kernel_rfl) (by intro c a d v w h; first | exact h | (cases d <;> first | exact h | (cases h; done) | cases h.1.1 | cases h.1)) (kept_mk hGP) ?_); (refine gp_rd ?_; (try simp only [opsOf, List.map_cons, List.map_nil, List.getD_cons_zero, List.getD_cons_succ]); (repeat (go_big_quiet_step (fail))); refine wpQuiet_nil ?_); clear gB gS gH hGP; (replace HW := HW.re hyd; replace HOP := HOP.re hyd); replace HTP := Lib.hid (HTP.out.trans (Two.of_ext hyd)); clear hyd; generalize W7.drew = W8 at *; (refine gp_bar (fun _ => True) trivial ?_); (refine gp_one (by (try simp only [List.getD_cons_succ, List.getD_cons_zero]); rfl) (by rfl) ?_; intro K hK; go_simp); refine (osethead_any p A cap wk xa ⟨hk', hf, hr, false, 0⟩ Bo W8 HW.here.ar HHB.out).mono ?_; rintro e w9 ⟨rfl, ha, hg⟩; have HT9 := Lib.hid (HW.here.turn ha hg); have HO9 := Lib.hid (HOP.here.keep2 HW.here.ar.own (by decide) hg); have HTQ := Lib.hid (HTP.out.trans (Two.of_grown (b := b) (by rw [← HWN.out]; exact hg))); refine hK _ _ _ (fun _ h => h) trivial ?_; clear hK K ha hg HW HOP hS hH HTP; have hk1 : td.length ≤ 100000 := HDL.out; (refine gp_tl ?_; (try simp only [opsOf, List.map_cons, List.map_nil, List.getD_cons_zero, List.getD_cons_succ])); go_wp2_with fail; go_roundw; (case rel => exact ⟨k + 1, by omega, by go_num, by rw [HTK.out, clearsL_snoc, HWK.out, clearL]; simp only [HHH.out]; exact HT9, HO9, HTQ⟩); (case measure => simp [intOf]; omega))
            · (refine gp_one (by (try simp only [List.getD_cons_succ, List.getD_cons_zero]); rfl) (by rfl) ?_; intro K hK; go_simp)
              have hx := (Ext.refl W2).alloc (.cells #[.int .i64 0, .int .i64 0, .int .i64 0, .bool false, .int .i64 0] 47)
              have HY := Lib.hid (Nat.le_refl W2.heap.size)
              have hH := pers_new W2 #[.int .i64 0, .int .i64 0, .int .i64 0, .bool false, .int .i64 0] 47 _ rfl
              refine hK _ _ _ (fun _ h => h) (kept_mk ⟨(HW.at hx).blk, hS.at hx⟩) ?_
              have HXX := Lib.hid hx
              clear hK K hx
              generalize hW3 : W2.alloc (.cells #[.int .i64 0, .int .i64 0, .int .i64 0, .bool false, .int .i64 0] 47) = W3 at *
              obtain ⟨Y, hYY⟩ : ∃ Y, W2.heap.size = Y := ⟨_, rfl⟩
              rw [hYY] at hH
              replace HY : Hid (W2.heap.size ≤ Y) := Lib.hid (by omega)
              clear hW3
              simp only [hYY]
              clear hYY
              (refine gp_one (by (try simp only [List.getD_cons_succ, List.getD_cons_zero]); rfl) (by rfl) ?_; intro K hK; go_simp)
              refine (ohead_is (some ⟨p, 0, none⟩) (some wk) xa ⟨hk', hf, hr, hm, hc⟩ er HHH.out HH0.out _ (HW.at HXX.out).ar.p HHB.out).mono ?_
              rintro e w4 ⟨rfl, hx⟩
              replace hH := (hH.re hx).here
              replace HXX := Lib.hid (HXX.out.trans hx)
              refine hK _ _ _ (fun _ h => h) (kept_mk ⟨(HW.at HXX.out).blk, hS.at HXX.out⟩) ?_
              clear hK K hx
              (refine gp_rd ?_; (try simp only [opsOf, List.map_cons, List.map_nil, List.getD_cons_zero, List.getD_cons_succ]); (repeat (go_big_quiet_step (fail))); refine wpQuiet_nil ?_)
              have k0 := (cells_of hH).1
              have k1 := (cells_of hH).2
              (refine gp_one (by (try simp only [List.getD_cons_succ, List.getD_cons_zero]); rfl) (by rfl) ?_; intro K hK; go_simp)
              have hb5 := store5 hH rfl (.int .i64 hk') (.int .i64 hf) (.int .i64 hr) (.bool hm) (.int .i64 hc)
              replace HXX := Lib.hid (store5_ext HXX.out HY.out (.int .i64 hk') (.int .i64 hf) (.int .i64 hr) (.bool hm) (.int .i64 hc))
              clear k0 k1
              replace hH := pers_blk hb5
              refine hK _ _ _ (fun _ h => h) (kept_mk ⟨(HW.at HXX.out).blk, hS.at HXX.out⟩) ?_
              clear hK K hb5
              generalize ((((w4.setCell ⟨Y, 0, none⟩ (.int .i64 hk')).setCell ⟨Y, 1, none⟩ (.int .i64 hf)).setCell ⟨Y, 2, none⟩ (.int .i64 hr)).setCell ⟨Y, 3, none⟩ (.bool hm)).setCell ⟨Y, 4, none⟩ (.int .i64 hc) = W5 at *
              ((refine gp_rd ?_; (try simp only [opsOf, List.map_cons, List.map_nil, List.getD_cons_zero, List.getD_cons_succ]); (repeat (go_big_quiet_step (fail))); refine wpQuiet_nil ?_); (refine gp_tl ?_; (try simp only [opsOf, List.map_cons, List.map_nil, List.getD_cons_zero, List.getD_cons_succ])); have gH := (cells_of hH.here).1; have fH := (cells_of hH.here).2; go_wp2_with fail; have hb2 : ((W5.setCell ⟨Y, 3, none⟩ (.bool false)).setCell ⟨Y, 4, none⟩ (.int .i64 0)).heap[Y]? = some (.cells #[.int .i64 hk', .int .i64 hf, .int .i64 hr, .bool false, .int .i64 0] 47 (0, 0)) := blk_set (i := 4) (blk_set (i := 3) hH.here (.bool false)) (.int .i64 0); have hx7 := (HXX.out.setCell (p := ⟨Y, 3, none⟩) HY.out (.bool false)).setCell (p := ⟨Y, 4, none⟩) HY.out (.int .i64 0); (replace HW := HW.re hx7; replace hS := hS.re hx7; replace HOP := HOP.re hx7); replace HTP := Lib.hid (HTP.out.trans (Two.of_ext hx7)); clear gH fH hx7 hH HXX HY; generalize (W5.setCell ⟨Y, 3, none⟩ (.bool false)).setCell ⟨Y, 4, none⟩ (.int .i64 0) = W7 at *; have hH := pers_blk hb2; clear hb2; have hyd := (Ext.refl W7).drew; have hGP : Box3S b #[.bool true, .pointer (some ⟨p, 0, none⟩), .slice (some ⟨lb, 0, none⟩) td.length tc2, .slice fA2 fg.length fc2, .int .i64 top] 102 X #[.int .i64 xa, .int .i64 xs] 23 Y #[.int .i64 hk', .int .i64 hf, .int .i64 hr, .bool false, .int .i64 0] 47 W7.drew := ⟨(HW.at hyd).blk, hS.at hyd, hH.at hyd⟩; have gB := hGP.one; have gS := hGP.two; have gH := hGP.three; (refine wp_region_gp (w := W7) (fun w' => ∃ u : KeptOf (W7).drew (Box3S b #[.bool true, .pointer (some ⟨p, 0, none⟩), .slice (some ⟨lb, 0, none⟩) td.length tc2, .slice fA2 fg.length fc2, .int .i64 top] 102 X #[.int .i64 xa, .int .i64 xs] 23 Y #[.int .i64 hk', .int .i64 hf, .int .i64 hr, .bool false, .int .i64 0] 47), w' = u.1) (.rd [0, 1, 2, 3, 4, 5, 6] (.bar [] (.one 7 .tl))) [7] (by kernel_rfl) (by kernel_rfl) (by intro c a d v w h; first | exact h | (cases d <;> first | exact h | (cases h; done) | cases h.1.1 | cases h.1)) (kept_mk hGP) ?_); (refine gp_rd ?_; (try simp only [opsOf, List.map_cons, List.map_nil, List.getD_cons_zero, List.getD_cons_succ]); (repeat (go_big_quiet_step (fail))); refine wpQuiet_nil ?_); clear gB gS gH hGP; (replace HW := HW.re hyd; replace HOP := HOP.re hyd); replace HTP := Lib.hid (HTP.out.trans (Two.of_ext hyd)); clear hyd; generalize W7.drew = W8 at *; (refine gp_bar (fun _ => True) trivial ?_); (refine gp_one (by (try simp only [List.getD_cons_succ, List.getD_cons_zero]); rfl) (by rfl) ?_; intro K hK; go_simp); refine (osethead_any p A cap wk xa ⟨hk', hf, hr, false, 0⟩ Bo W8 HW.here.ar HHB.out).mono ?_; rintro e w9 ⟨rfl, ha, hg⟩; have HT9 := Lib.hid (HW.here.turn ha hg); have HO9 := Lib.hid (HOP.here.keep2 HW.here.ar.own (by decide) hg); have HTQ := Lib.hid (HTP.out.trans (Two.of_grown (b := b) (by rw [← HWN.out]; exact hg))); refine hK _ _ _ (fun _ h => h) trivial ?_; clear hK K ha hg HW HOP hS hH HTP; have hk1 : td.length ≤ 100000 := HDL.out; (refine gp_tl ?_; (try simp only [opsOf, List.map_cons, List.map_nil, List.getD_cons_zero, List.getD_cons_succ])); go_wp2_with fail; go_roundw; (case rel => exact ⟨k + 1, by omega, by go_num, by rw [HTK.out, clearsL_snoc, HWK.out, clearL]; simp only [HHH.out]; exact HT9, HO9, HTQ⟩); (case measure => simp [intOf]; omega))
        obtain ⟨lg, rfl, -, -⟩ := own_some HOG.out (by intro e; rw [e] at hlt; simp at hlt)
        obtain ⟨lb', off, e0, hc⟩ := HOG.out.spans.get (row_ne hlt)
        simp only [Option.some.injEq, Addr.mk.injEq, and_true] at e0
        obtain ⟨rfl, rfl⟩ := e0
        obtain ⟨j1, j2⟩ := spans_cell hc hlt
        simp only [Nat.zero_add] at j1 j2
        have ib1 : (k : Int) < ((goneL ws tb).length : Int) := by omega
        have HTK : Hid ((goneL ws tb).take (k + 1) = (goneL ws tb).take k ++ [(goneL ws tb).getD k (0, 0)]) := Lib.hid (take_snoc hlt)
        have HTL : Hid ((dropsL tb ((goneL ws tb).take k)).length ≤ 100000) := Lib.hid (by have h1 := dropsL_len ((goneL ws tb).take k) tb; have h2 := HL.out; omega)
        have HFL : Hid ((givesL fr ((goneL ws tb).take k)).length ≤ 200000) := Lib.hid (by have h1 := givesL_len ((goneL ws tb).take k) fr; have h2 := HL2.out; have h3 := HGL.out; have h4 := List.length_take_le k (goneL ws tb); omega)
        clear hc
        generalize (goneL ws tb).getD k (0, 0) = x at *
        obtain ⟨xa, xs⟩ := x
        simp only at j1 j2
        generalize hD : dropsL tb ((goneL ws tb).take k) = td at *
        generalize hG : givesL fr ((goneL ws tb).take k) = fg at *
        have HDD := Lib.hid hD
        have HGG := Lib.hid hG
        clear hD hG
        have HW := HLB.out.pers
        have HOP := pers_own HOG.out
        have hS := pers_new wr #[.int .i64 xa, .int .i64 xs] 23 _ rfl
        have hxs := (Ext.refl wr).alloc (.cells #[.int .i64 xa, .int .i64 xs] 23)
        go_wp2_with fail
        (replace HW := HW.re hxs; replace HOP := HOP.re hxs)
        replace HTO := Lib.hid (HTO.out.trans (Two.of_ext hxs))
        generalize wr.alloc (.cells #[.int .i64 xa, .int .i64 xs] 23) = W1 at *
        generalize wr.heap.size = X at *
        clear j1 j2 ib1 hxs HLB HOG
        have hyd := (Ext.refl W1).drew
        have hGP : Box2S b #[.bool true, .pointer (some ⟨p, 0, none⟩), .slice tA2 td.length tc2, .slice fA2 fg.length fc2, .int .i64 top] 102 X #[.int .i64 xa, .int .i64 xs] 23 W1.drew := ⟨(HW.at hyd).blk, hS.at hyd⟩
        have gB := hGP.one
        have g1 := hGP.two
        (refine wp_region_gp (w := W1) (fun _ => True) (.rd [0] (.wk [7, 8, 9, 10, 11, 12, 13, 14] (.rd [1, 2, 3, 4, 5, 6] (.bar [] (.one 7 (.rd [8, 9, 10, 11, 12, 13] (.one 14 .tl))))))) [] (by kernel_rfl) (by kernel_rfl) (by intro c a d v w h; first | exact h | (cases d <;> first | exact h | (cases h; done) | cases h.1.1 | cases h.1)) trivial ?_; (refine gp_rd ?_; (try simp only [opsOf, List.map_cons, List.map_nil, List.getD_cons_zero, List.getD_cons_succ]); (repeat (go_big_quiet_step (fail))); refine wpQuiet_nil ?_); refine gp_wk (fun _ => trivial) (fun w' => ∃ u : KeptOf (W1).drew (Box2S b #[.bool true, .pointer (some ⟨p, 0, none⟩), .slice tA2 td.length tc2, .slice fA2 fg.length fc2, .int .i64 top] 102 X #[.int .i64 xa, .int .i64 xs] 23), w' = u.1) (kept_mk hGP) ?_)
        (refine gp_rd ?_; (try simp only [opsOf, List.map_cons, List.map_nil, List.getD_cons_zero, List.getD_cons_succ]); (repeat (go_big_quiet_step (fail))); refine wpQuiet_nil ?_)
        clear gB g1 hGP
        (replace HW := HW.re hyd; replace hS := hS.re hyd; replace HOP := HOP.re hyd)
        replace HTO := Lib.hid (HTO.out.trans (Two.of_ext hyd))
        clear hyd
        generalize W1.drew = W2 at *
        (refine gp_bar (fun _ => True) trivial ?_)
        (refine gp_one (by (try simp only [List.getD_cons_succ, List.getD_cons_zero]); rfl) (by rfl) ?_; intro K hK; go_simp)
        refine (drop_own tA2 tc2 td xa W2 (by have := HTL.out; omega) HW.here.tab.spans).mono ?_
        rintro e w3 ⟨ys, da, ds, er, m, tA3, tc3, hres, rfl, rfl, ho, hx⟩
        have HDR := Lib.hid (drop_res hres)
        replace ho := ho.mono (Nat.le_trans HBo.out (by have := lt_of_heap HW.here.blk; omega) : Bo ≤ W2.heap.size)
        (replace HW := HW.re hx; replace hS := hS.re hx; replace HOP := HOP.re hx)
        replace HTO := Lib.hid (HTO.out.trans (Two.of_ext hx))
        refine hK _ _ _ (fun _ h => h) trivial ?_
        clear hK K hx hres
        have HOY := pers_own ho
        clear ho
        have gB := (cells_of HW.here.blk).1
        have fB := (cells_of HW.here.blk).2
        (refine gp_rd ?_; (try simp only [opsOf, List.map_cons, List.map_nil, List.getD_cons_zero, List.getD_cons_succ]); (repeat (go_big_quiet_step (fail))); refine wpQuiet_nil ?_)
        (refine gp_one (by (try simp only [List.getD_cons_succ, List.getD_cons_zero]); rfl) (by rfl) ?_; intro K hK; go_simp)
        refine hK _ _ _ (fun _ h => h) trivial ?_
        clear hK K gB fB
        have hne : X ≠ b := fun e => by
          have h1 := hS.here
          have h2 := HW.here.blk
          rw [e, h2] at h1
          injection h1 with h1
          injection h1 with _ h1 _
          revert h1
          decide
        have hS4 := blk_set_other (i := 2) hS.here (.slice tA3 ys.length tc3) hne
        have hT4 := HW.here.setTab rfl HOY.here
        have hO4 := HOP.here.setOther (i := 2) (u := .slice tA3 ys.length tc3) HW.here.blk (by decide)
        replace HTO := Lib.hid (HTO.out.set 2 (.slice tA3 ys.length tc3))
        clear HW hS HOP HOY
        generalize w3.setCell ⟨b, 2, none⟩ (.slice tA3 ys.length tc3) = W4 at *
        have HW := hT4.pers
        have hS := pers_blk hS4
        have HOP := pers_own hO4
        clear hT4 hS4 hO4 hne
        (refine gp_tl ?_; (try simp only [opsOf, List.map_cons, List.map_nil, List.getD_cons_zero, List.getD_cons_succ]))
        go_wp2_with fail
        have hyd := (Ext.refl W4).drew
        have hGP : Box2S b #[.bool true, .pointer (some ⟨p, 0, none⟩), .slice tA3 ys.length tc3, .slice fA2 fg.length fc2, .int .i64 top] 102 X #[.int .i64 xa, .int .i64 xs] 23 W4.drew := ⟨(HW.at hyd).blk, hS.at hyd⟩
        have gB := hGP.one
        have g1 := hGP.two
        (refine wp_region_gp (w := W4) (fun _ => True) (.rd [0] (.wk [6, 7, 8, 9, 10, 11, 12] (.rd [1, 2, 3, 4, 5] (.bar [] (.one 6 (.rd [7, 8, 9, 10, 11] (.one 12 .tl))))))) [] (by kernel_rfl) (by kernel_rfl) (by intro c a d v w h; first | exact h | (cases d <;> first | exact h | (cases h; done) | cases h.1.1 | cases h.1)) trivial ?_; (refine gp_rd ?_; (try simp only [opsOf, List.map_cons, List.map_nil, List.getD_cons_zero, List.getD_cons_succ]); (repeat (go_big_quiet_step (fail))); refine wpQuiet_nil ?_); refine gp_wk (fun _ => trivial) (fun w' => ∃ u : KeptOf (W4).drew (Box2S b #[.bool true, .pointer (some ⟨p, 0, none⟩), .slice tA3 ys.length tc3, .slice fA2 fg.length fc2, .int .i64 top] 102 X #[.int .i64 xa, .int .i64 xs] 23), w' = u.1) (kept_mk hGP) ?_)
        (refine gp_rd ?_; (try simp only [opsOf, List.map_cons, List.map_nil, List.getD_cons_zero, List.getD_cons_succ]); (repeat (go_big_quiet_step (fail))); refine wpQuiet_nil ?_)
        clear gB g1 hGP
        (replace HW := HW.re hyd; replace hS := hS.re hyd; replace HOP := HOP.re hyd)
        replace HTO := Lib.hid (HTO.out.trans (Two.of_ext hyd))
        clear hyd
        generalize W4.drew = W5 at *
        (refine gp_bar (fun _ => True) trivial ?_)
        (refine gp_one (by (try simp only [List.getD_cons_succ, List.getD_cons_zero]); rfl) (by rfl) ?_; intro K hK; go_simp)
        refine (give_own fA2 fc2 fg xa xs W5 (by have := HFL.out; omega) HW.here.fre.spans).mono ?_
        rintro e w6 ⟨zs, er, m, fA3, fc3, hres, rfl, rfl, ho, hx⟩
        have HGR := Lib.hid (give_res hres)
        replace ho := ho.mono (Nat.le_trans HBo.out (by have := lt_of_heap HW.here.blk; omega) : Bo ≤ W5.heap.size)
        (replace HW := HW.re hx; replace hS := hS.re hx; replace HOP := HOP.re hx)
        replace HTO := Lib.hid (HTO.out.trans (Two.of_ext hx))
        refine hK _ _ _ (fun _ h => h) trivial ?_
        clear hK K hx hres
        have HOY := pers_own ho
        clear ho
        have gB := (cells_of HW.here.blk).1
        have fB := (cells_of HW.here.blk).2
        (refine gp_rd ?_; (try simp only [opsOf, List.map_cons, List.map_nil, List.getD_cons_zero, List.getD_cons_succ]); (repeat (go_big_quiet_step (fail))); refine wpQuiet_nil ?_)
        (refine gp_one (by (try simp only [List.getD_cons_succ, List.getD_cons_zero]); rfl) (by rfl) ?_; intro K hK; go_simp)
        refine hK _ _ _ (fun _ h => h) trivial ?_
        clear hK K gB fB
        have HT7 := Lib.hid (HW.here.setFre rfl HOY.here)
        have HO7 := Lib.hid (HOP.here.setOther (i := 3) (u := .slice fA3 zs.length fc3) HW.here.blk (by decide))
        replace HTO := Lib.hid (HTO.out.set 3 (.slice fA3 zs.length fc3))
        clear HW hS HOP HOY
        generalize w6.setCell ⟨b, 3, none⟩ (.slice fA3 zs.length fc3) = W7 at *
        have hk1 : (goneL ws tb).length ≤ 100000 := HGL.out
        (refine gp_tl ?_; (try simp only [opsOf, List.map_cons, List.map_nil, List.getD_cons_zero, List.getD_cons_succ]))
        go_wp2_with fail
        go_roundw
        case rel => exact ⟨tA3, tc3, fA3, fc3, k + 1, by omega, by go_num, by rw [HTK.out, dropsL_snoc, givesL_snoc, HDD.out, HGG.out, ← HDR.out, ← HGR.out]; exact HT7, HO7, HTO⟩
        case measure => simp [intOf]; omega
    obtain ⟨lb, rfl, -, -⟩ := own_some HW.here.tab (by intro e; simp only at e; rw [e] at hlt; simp at hlt)
    obtain ⟨lb', off, e0, hc⟩ := HW.here.tab.spans.get (row_ne hlt)
    simp only [Option.some.injEq, Addr.mk.injEq, and_true] at e0
    obtain ⟨rfl, rfl⟩ := e0
    obtain ⟨j1, j2⟩ := spans_cell hc hlt
    simp only [Nat.zero_add] at j1 j2
    have hxb := HTB.out _ (getD_mem (d := (0, 0)) hlt)
    have hhe := HHE.out _ (getD_mem (d := (0, 0)) hlt)
    have ib1 : (k : Int) < (tb.length : Int) := by omega
    have HSN : Hid (goneL ws (tb.take (k + 1)) = goneL ws (tb.take k) ++ (if unmB ws (tb.getD k (0, 0)) then [tb.getD k (0, 0)] else [])) := Lib.hid (filter_snoc hlt)
    clear hc
    generalize tb.getD k (0, 0) = x at *
    obtain ⟨xa, xs⟩ := x
    simp only at j1 j2 hxb hhe
    obtain ⟨⟨hk', hf, hr, hm, hc⟩, hh⟩ : ∃ h, headH (some ws) xa = h := ⟨_, rfl⟩
    have HHH := Lib.hid hh
    have HHB := Lib.hid hxb
    have HH0 := Lib.hid hhe
    have HUN : Hid (unmB ws (xa, xs) = !hm) := Lib.hid (by simp only [unmB, hh])
    clear hh hxb hhe
    have hS := pers_new wr #[.int .i64 xa, .int .i64 xs] 23 _ rfl
    have hxs := (Ext.refl wr).alloc (.cells #[.int .i64 xa, .int .i64 xs] 23)
    have gB := (cells_of HW.here.blk).1
    go_wp2_with fail
    clear gB
    (replace HW := HW.re hxs)
    have HO1 := pers_own (HO.out.ext hxs)
    replace HXR := Lib.hid (HXR.out.trans hxs)
    generalize wr.alloc (.cells #[.int .i64 xa, .int .i64 xs] 23) = W1 at *
    generalize wr.heap.size = X at *
    clear j1 j2 ib1 hxs HO
    have hyd := (Ext.refl W1).drew
    have hGP : Box2S b #[.bool true, .pointer (some ⟨p, 0, none⟩), .slice (some ⟨lb, 0, none⟩) tb.length tc, .slice fA fr.length fc, .int .i64 top] 102 X #[.int .i64 xa, .int .i64 xs] 23 W1.drew := ⟨(HW.at hyd).blk, hS.at hyd⟩
    have gB := hGP.one
    have g1 := hGP.two
    (refine wp_region_gp (w := W1) (fun w' => ∃ u : KeptOf (W1).drew (Box2S b #[.bool true, .pointer (some ⟨p, 0, none⟩), .slice (some ⟨lb, 0, none⟩) tb.length tc, .slice fA fr.length fc, .int .i64 top] 102 X #[.int .i64 xa, .int .i64 xs] 23), w' = u.1) (.rd [0, 1, 2, 3, 4, 5] (.fk 6 (.rd [7, 8, 9] (.one 10 (.one 11 (.rd [12] .tl)))) 10 (.one 6 (.rd [7, 8, 9] (.one 11 (.rd [12] .tl)))))) [] (by kernel_rfl) (by kernel_rfl) (by intro c a d v w h; first | exact h | (cases d <;> first | exact h | (cases h; done) | cases h.1.1 | cases h.1)) (kept_mk hGP) ?_)
    (refine gp_rd ?_; (try simp only [opsOf, List.map_cons, List.map_nil, List.getD_cons_zero, List.getD_cons_succ]); (repeat (go_big_quiet_step (fail))); refine wpQuiet_nil ?_)
    clear gB g1 hGP
    (replace HW := HW.re hyd; replace hS := hS.re hyd; replace HO1 := HO1.re hyd)
    replace HXR := Lib.hid (HXR.out.trans hyd)
    clear hyd
    generalize W1.drew = W2 at *
    refine gp_fk ?_ ?_
    · (refine gp_one (by (try simp only [List.getD_cons_succ, List.getD_cons_zero]); rfl) (by rfl) ?_; intro K hK; go_simp)
      refine (ohead_is (some ⟨p, 0, none⟩) (some ws) xa ⟨hk', hf, hr, hm, hc⟩ 0 HHH.out HH0.out _ HW.here.ar.p HHB.out).mono ?_
      rintro e w3 ⟨rfl, hx⟩
      (replace HW := HW.re hx; replace hS := hS.re hx; replace HO1 := HO1.re hx)
      replace HXR := Lib.hid (HXR.out.trans hx)
      refine hK _ _ _ (fun _ h => h) (kept_mk ⟨HW.here.blk, hS.here⟩) ?_
      clear hK K hx
      (refine gp_rd ?_; (try simp only [opsOf, List.map_cons, List.map_nil, List.getD_cons_zero, List.getD_cons_succ]); (repeat (go_big_quiet_step (fail))); refine wpQuiet_nil ?_)
      (refine gp_one (by (try simp only [List.getD_cons_succ, List.getD_cons_zero]); rfl) (by rfl) ?_; intro K hK; go_simp)
      refine hK _ _ _ (fun _ h => h) (kept_mk ⟨(HW.at ((Ext.refl _).alloc _)).blk, hS.at ((Ext.refl _).alloc _)⟩) ?_
      clear hK K
      (refine gp_one (by (try simp only [List.getD_cons_succ, List.getD_cons_zero]); rfl) (by rfl) ?_; intro K hK; go_simp)
      have hx := (Ext.refl w3).alloc (.cells #[.int .i64 hk', .int .i64 hf, .int .i64 hr, .bool hm, .int .i64 hc] 47)
      have hH := pers_new w3 #[.int .i64 hk', .int .i64 hf, .int .i64 hr, .bool hm, .int .i64 hc] 47 _ rfl
      (replace HW := HW.re hx; replace hS := hS.re hx; replace HO1 := HO1.re hx)
      replace HXR := Lib.hid (HXR.out.trans hx)
      refine hK _ _ _ (fun _ h => h) (kept_mk ⟨HW.here.blk, hS.here⟩) ?_
      clear hK K hx
      generalize w3.alloc (.cells #[.int .i64 hk', .int .i64 hf, .int .i64 hr, .bool hm, .int .i64 hc] 47) = W5 at *
      generalize w3.heap.size = Y at *
      ((refine gp_rd ?_; (try simp only [opsOf, List.map_cons, List.map_nil, List.getD_cons_zero, List.getD_cons_succ]); (repeat (go_big_quiet_step (fail))); refine wpQuiet_nil ?_); (refine gp_tl ?_; (try simp only [opsOf, List.map_cons, List.map_nil, List.getD_cons_zero, List.getD_cons_succ])); have gS := (cells_of hS.here).1; have gH := (cells_of hH.here).1; have hB := HXR.out.size; have hkb : tb.length ≤ 100000 := HL.out; have hgl : (goneL ws (tb.take k)).length ≤ 100000 := (by have h1 := List.length_filter_le (unmB ws) (tb.take k); have h2 := List.length_take_le k tb; have h3 := HL.out; simp only [goneL]; omega); cases hm; (focus (have HS1 : Hid (goneL ws (tb.take (k + 1)) = goneL ws (tb.take k) ++ [(xa, xs)]) := Lib.hid (by rw [HSN.out, HUN.out]; rfl); go_wp2_with (at_builtin; refine wpList_app_lit rfl (.tmp 42) (.tmp 44) 45 rfl spanInfo spanCells rfl (by exact HO1.at (by repeat (first | (with_reducible exact Ext.refl _) | (with_reducible exact ExtOf.ext _) | (with_reducible assumption) | (with_reducible refine Ext.drew ?_) | (with_reducible refine Ext.alloc ?_ _)))) [(xa, xs)] 1 _ rfl ((goneL ws (tb.take k)).length + 1) 1 (by simp) rfl _ rfl (by first | rfl | simp) (by omega) (by simp [maxLen]; try omega) (by exact Nat.le_trans hB (Ext.size (Ext.trans (a := _) (Ext.refl _) (by repeat (first | (with_reducible exact Ext.refl _) | (with_reducible exact ExtOf.ext _) | (with_reducible assumption) | (with_reducible refine Ext.drew ?_) | (with_reducible refine Ext.alloc ?_ _)))))) ?_; intro A4 cap4 w4 hown4 hgr4 hat4; have HO4 := Lib.hid hown4; have HX4 : Hid (Ext wa w4) := Lib.hid (Own.below (HO1.here) (Ext.trans HXR.out (by repeat (first | (with_reducible exact Ext.refl _) | (with_reducible exact ExtOf.ext _) | (with_reducible assumption) | (with_reducible refine Ext.drew ?_) | (with_reducible refine Ext.alloc ?_ _)))) hgr4 (by exact Nat.le_trans hB (Ext.size (by repeat (first | (with_reducible exact Ext.refl _) | (with_reducible exact ExtOf.ext _) | (with_reducible assumption) | (with_reducible refine Ext.drew ?_) | (with_reducible refine Ext.alloc ?_ _)))))); clear hown4 hgr4 hat4); go_roundw; (case rel => exact ⟨A4, cap4, k + 1, by omega, by rw [HS1.out, List.length_append]; rfl, by go_num, by rw [HS1.out, List.length_append]; exact HO4, HX4.out⟩); (case measure => simp [intOf]; omega))); (focus (have HS1 : Hid (goneL ws (tb.take (k + 1)) = goneL ws (tb.take k)) := Lib.hid (by rw [HSN.out, HUN.out]; simp); go_wp2_with fail; go_roundw; (case rel => exact ⟨gA, gc, k + 1, by omega, by rw [HS1.out], by go_num, by rw [HS1.out]; exact Lib.hid HO1.here, HXR.out⟩); (case measure => simp [intOf]; omega))))
    · (refine gp_one (by (try simp only [List.getD_cons_succ, List.getD_cons_zero]); rfl) (by rfl) ?_; intro K hK; go_simp)
      have hx := (Ext.refl W2).alloc (.cells #[.int .i64 0, .int .i64 0, .int .i64 0, .bool false, .int .i64 0] 47)
      have hY := Nat.le_refl W2.heap.size
      have hH := pers_new W2 #[.int .i64 0, .int .i64 0, .int .i64 0, .bool false, .int .i64 0] 47 _ rfl
      have HW3 := HW.re hx
      have hS3 := hS.re hx
      refine hK _ _ _ (fun _ h => h) (kept_mk ⟨HW3.here.blk, hS3.here⟩) ?_
      clear hK K
      have HXX := Lib.hid hx
      clear hx
      generalize W2.alloc (.cells #[.int .i64 0, .int .i64 0, .int .i64 0, .bool false, .int .i64 0] 47) = W3 at *
      generalize hYY : W2.heap.size = Y at *
      have HYY := Lib.hid hYY
      clear hYY
      (refine gp_one (by (try simp only [List.getD_cons_succ, List.getD_cons_zero]); rfl) (by rfl) ?_; intro K hK; go_simp)
      refine (ohead_is (some ⟨p, 0, none⟩) (some ws) xa ⟨hk', hf, hr, hm, hc⟩ 0 HHH.out HH0.out _ HW3.here.ar.p HHB.out).mono ?_
      rintro e w4 ⟨rfl, hx⟩
      replace hH := (hH.re hx).here
      refine hK _ _ _ (fun _ h => h) (kept_mk ⟨(HW3.at hx).blk, hS3.at hx⟩) ?_
      replace HXX := Lib.hid (HXX.out.trans hx)
      clear hK K hx
      (refine gp_rd ?_; (try simp only [opsOf, List.map_cons, List.map_nil, List.getD_cons_zero, List.getD_cons_succ]); (repeat (go_big_quiet_step (fail))); refine wpQuiet_nil ?_)
      have k0 := (cells_of hH).1
      have k1 := (cells_of hH).2
      (refine gp_one (by (try simp only [List.getD_cons_succ, List.getD_cons_zero]); rfl) (by rfl) ?_; intro K hK; go_simp)
      have hb5 := store5 hH rfl (.int .i64 hk') (.int .i64 hf) (.int .i64 hr) (.bool hm) (.int .i64 hc)
      have hx5 := store5_ext HXX.out (by rw [HYY.out]; exact hY) (.int .i64 hk') (.int .i64 hf) (.int .i64 hr) (.bool hm) (.int .i64 hc)
      clear HW3 hS3 k0 k1
      (replace HW := HW.re hx5; replace hS := hS.re hx5; replace HO1 := HO1.re hx5)
      replace HXR := Lib.hid (HXR.out.trans hx5)
      replace hH := pers_blk hb5
      refine hK _ _ _ (fun _ h => h) (kept_mk ⟨HW.here.blk, hS.here⟩) ?_
      clear hK K hx5 hb5 hY
      generalize ((((w4.setCell ⟨Y, 0, none⟩ (.int .i64 hk')).setCell ⟨Y, 1, none⟩ (.int .i64 hf)).setCell ⟨Y, 2, none⟩ (.int .i64 hr)).setCell ⟨Y, 3, none⟩ (.bool hm)).setCell ⟨Y, 4, none⟩ (.int .i64 hc) = W5 at *
      ((refine gp_rd ?_; (try simp only [opsOf, List.map_cons, List.map_nil, List.getD_cons_zero, List.getD_cons_succ]); (repeat (go_big_quiet_step (fail))); refine wpQuiet_nil ?_); (refine gp_tl ?_; (try simp only [opsOf, List.map_cons, List.map_nil, List.getD_cons_zero, List.getD_cons_succ])); have gS := (cells_of hS.here).1; have gH := (cells_of hH.here).1; have hB := HXR.out.size; have hkb : tb.length ≤ 100000 := HL.out; have hgl : (goneL ws (tb.take k)).length ≤ 100000 := (by have h1 := List.length_filter_le (unmB ws) (tb.take k); have h2 := List.length_take_le k tb; have h3 := HL.out; simp only [goneL]; omega); cases hm; (focus (have HS1 : Hid (goneL ws (tb.take (k + 1)) = goneL ws (tb.take k) ++ [(xa, xs)]) := Lib.hid (by rw [HSN.out, HUN.out]; rfl); go_wp2_with (at_builtin; refine wpList_app_lit rfl (.tmp 42) (.tmp 44) 45 rfl spanInfo spanCells rfl (by exact HO1.at (by repeat (first | (with_reducible exact Ext.refl _) | (with_reducible exact ExtOf.ext _) | (with_reducible assumption) | (with_reducible refine Ext.drew ?_) | (with_reducible refine Ext.alloc ?_ _)))) [(xa, xs)] 1 _ rfl ((goneL ws (tb.take k)).length + 1) 1 (by simp) rfl _ rfl (by first | rfl | simp) (by omega) (by simp [maxLen]; try omega) (by exact Nat.le_trans hB (Ext.size (Ext.trans (a := _) (Ext.refl _) (by repeat (first | (with_reducible exact Ext.refl _) | (with_reducible exact ExtOf.ext _) | (with_reducible assumption) | (with_reducible refine Ext.drew ?_) | (with_reducible refine Ext.alloc ?_ _)))))) ?_; intro A4 cap4 w4 hown4 hgr4 hat4; have HO4 := Lib.hid hown4; have HX4 : Hid (Ext wa w4) := Lib.hid (Own.below (HO1.here) (Ext.trans HXR.out (by repeat (first | (with_reducible exact Ext.refl _) | (with_reducible exact ExtOf.ext _) | (with_reducible assumption) | (with_reducible refine Ext.drew ?_) | (with_reducible refine Ext.alloc ?_ _)))) hgr4 (by exact Nat.le_trans hB (Ext.size (by repeat (first | (with_reducible exact Ext.refl _) | (with_reducible exact ExtOf.ext _) | (with_reducible assumption) | (with_reducible refine Ext.drew ?_) | (with_reducible refine Ext.alloc ?_ _)))))); clear hown4 hgr4 hat4); go_roundw; (case rel => exact ⟨A4, cap4, k + 1, by omega, by rw [HS1.out, List.length_append]; rfl, by go_num, by rw [HS1.out, List.length_append]; exact HO4, HX4.out⟩); (case measure => simp [intOf]; omega))); (focus (have HS1 : Hid (goneL ws (tb.take (k + 1)) = goneL ws (tb.take k)) := Lib.hid (by rw [HSN.out, HUN.out]; simp); go_wp2_with fail; go_roundw; (case rel => exact ⟨gA, gc, k + 1, by omega, by rw [HS1.out], by go_num, by rw [HS1.out]; exact Lib.hid HO1.here, HXR.out⟩); (case measure => simp [intOf]; omega))))
end
end Go.Proofs.Ytkcpfimhbogdcaa

/- A living part by itself, in whatever world: the contracts with their results under names. -/
set_option linter.unusedSimpArgs false
set_option linter.unusedVariables false
namespace Go.Proofs.Ytkcpfimhbogdcaa
open Go.RowKit Go.Shelf

theorem own_get {α : Type} {e : TypeId} {n : Nat} {f : α → List Value} {w : World} {B g N cap : Nat} {xs : List α} (hf : Cells n f) (h0 : 0 < n) (h : Own e n f w B (.slice (some ⟨g, 0, none⟩) N cap) xs) (hn : xs.length = N) (k j : Nat) (hk : k < xs.length) (v : Value) (hv : (f xs[k])[j]? = some v) : w.cell? ⟨g, k * n + j, none⟩ = some v := by
  subst hn
  have hr := (own_row h hf h0).1
  obtain ⟨b, off, e1, hc⟩ := RowAt.get hr (by omega)
  injection e1 with e1
  injection e1 with e1 e2 _
  subst e1 e2
  have := hc k xs[k] (by simp [hk]) j v hv
  simpa using this
/-- A part made behind V0, of N words. -/
structure Lv (V0 : World) (b p : Nat) (A : Option Addr) (cap N : Nat) (s : LoD) (w : World) : Prop where
  lo : LoO V0.heap.size w b p A cap s
  ext : Ext V0 w
  len : s.ws.length = N
section
variable {V0 : World} {b p : Nat} {A : Option Addr} {cap N : Nat} {s s' : LoD} {w w' : World}
theorem Lv.grow (h : Lv V0 b p A cap N s w) (hx : Ext w w') : Lv V0 b p A cap N s w' := ⟨h.lo.ext hx, h.ext.trans hx, h.len⟩
theorem Lv.own (h : Lv V0 b p A cap N s w) : Own 64 1 u64C w V0.heap.size (.slice A N cap) s.ws := by
  obtain ⟨⟨_, _, _, _, h1⟩, _, h3⟩ := h
  have := h1.ar.own
  rwa [h3] at this
theorem Lv.to (h : Lv V0 b p A cap N s w) (ht : LoTo V0.heap.size w b p A cap N s' w') (hl : s'.ws.length = N) : Lv V0 b p A cap N s' w' := by
  obtain ⟨_, _, _, _, h1⟩ := h.lo
  exact ⟨ht.1, ht.2.ext h.ext h1.base (fun g hg => (World.ownsRow.lt h.own g hg).1), hl⟩
/-- What lies elsewhere stays. -/
theorem Lv.keep (h : Lv V0 b p A cap N s w) (ht : Two b (Value.slice A N cap).ownBlock w w') {α : Type} {e n : Nat} {f : α → List Value} {B : Nat} {x : Value} {xs : List α} (ho : Own e n f w B x xs) (h1 : 102 ≠ e) (h2 : 64 ≠ e) : Own e n f w' B x xs := by
  obtain ⟨_, _, _, _, hb⟩ := h.lo
  exact ho.twoT ht hb.blk h1 h.own rfl h2
theorem Lv.base (h : Lv V0 b p A cap N s w) : V0.heap.size ≤ b := by
  obtain ⟨_, _, _, _, hb⟩ := h.lo
  exact hb.base
/-- What was there before stays. -/
theorem Lv.old (h : Lv V0 b p A cap N s w) (ht : Two b (Value.slice A N cap).ownBlock w w') : Ext V0 w' := ht.ext h.ext h.base (fun g hg => (World.ownsRow.lt h.own g hg).1)
end
/-- What Take comes to. -/
def takeR (n : Int) (xs : List (Int × Int)) : List (Int × Int) × Int × Int :=
  if n < 1 then (xs, 0, 7) else if idxZ (takeP n) xs = -1 then (xs, 0, 9) else (takeL n xs (idxZ (takeP n) xs).toNat, (gt xs (idxZ (takeP n) xs).toNat).1, 0)
theorem take_res {n : Int} {xs ys : List (Int × Int)} {q er : Int} (h : TakeRes n xs ys q er) : takeR n xs = (ys, q, er) := by
  rcases h with ⟨h1, rfl, rfl, rfl⟩ | ⟨h1, h2, rfl, rfl, rfl⟩ | ⟨h1, k, hk, hi, _, rfl, rfl, rfl⟩
  · rw [takeR, if_pos h1]
  · rw [takeR, if_neg (by omega), if_pos]
    rcases idx_cases (takeP n) ys with ⟨hi, _⟩ | ⟨k, hk, _, hy, _⟩
    · exact hi
    · rw [h2 _ (getD_mem hk)] at hy; cases hy
  · rw [takeR, if_neg (by omega), if_neg (by rw [hi]; omega), hi]
    rfl
theorem lput_len (ws : List Int) (i : Int) (h : Hd) : (putL ws i h).length = ws.length := by
  unfold putL
  split
  · rw [List.length_set]; exact fillK_len _ _ _ _
  · rfl
section
variable {V0 : World} {b p : Nat} {A : Option Addr} {cap N : Nat} {V : World}
set_option maxHeartbeats 1000000
/-- A call's post: its result, the part behind it, and what may have turned. -/
def LvPost (V0 : World) (b p : Nat) (A : Option Addr) (cap N : Nat) (v : Value) (s : LoD) (V : World) (e : Ending) (w' : World) : Prop := e = .returned v ∧ Lv V0 b p A cap N s w' ∧ Two b (Value.slice A N cap).ownBlock V w'
theorem lv_put (s : LoD) (hd : Hd) (ys : List (Int × Int)) (q n : Int) (h : Lv V0 b p A cap N s V) (hn : hsize hd = n) (h0 : n ≠ 0) (ht : takeR n s.fr = (ys, q, 0)) (h1 : mayB q n = true) (h2 : s.tb.any (giveP q n) = false) (hl : s.tb.length ≤ 300000) (hl2 : s.fr.length ≤ 300000) :
    Calls Try.prog 46 #[.pointer (some ⟨b, 0, none⟩), .agg #[.int .i64 hd.k, .int .i64 hd.f, .int .i64 hd.r, .bool hd.m, .int .i64 hd.c]] V (LvPost V0 b p A cap N (.tuple #[.int .i64 q, .int .i64 (putE s.ws q hd)]) ⟨putL s.ws q hd, addL q n s.tb, ys, s.top⟩ V) := by
  subst hn
  obtain ⟨tA, tc, fA, fc, hb⟩ := h.lo
  obtain ⟨ws, tb, fr, top⟩ := s
  refine (loput_any ws tb fr top hd V hb hl hl2 (fun ys' q' hr => ?_)).mono ?_
  · have := take_res hr
    simp only at ht
    rw [this] at ht
    obtain ⟨rfl, rfl, _⟩ := by simpa using ht
    exact ⟨h1, h2⟩
  · rintro e w' (⟨h0', _, _⟩ | ⟨ys', q', er, _, hr, h1', _, _⟩ | ⟨ys', q', _, hr, he, hlo⟩)
    · exact absurd h0' h0
    · have := take_res hr
      simp only at ht
      rw [this] at ht
      simp at ht
      exact absurd ht.2.2 h1'
    · have := take_res hr
      simp only at ht
      rw [this] at ht
      obtain ⟨rfl, rfl, _⟩ := by simpa using ht
      have hN := h.len
      simp only at hN
      rw [hN] at hlo
      exact ⟨he, h.to hlo (by rw [← hN]; exact lput_len _ _ _), hlo.2⟩
theorem lv_put_no (s : LoD) (hd : Hd) (er : Int) (h : Lv V0 b p A cap N s V) (hr : (hsize hd = 0 ∧ er = 1) ∨ (hsize hd ≠ 0 ∧ er ≠ 0 ∧ (takeR (hsize hd) s.fr).2.2 = er)) (hl : s.tb.length ≤ 300000) (hl2 : s.fr.length ≤ 300000) :
    Calls Try.prog 46 #[.pointer (some ⟨b, 0, none⟩), .agg #[.int .i64 hd.k, .int .i64 hd.f, .int .i64 hd.r, .bool hd.m, .int .i64 hd.c]] V (LvPost V0 b p A cap N (.tuple #[.int .i64 0, .int .i64 er]) s V) := by
  obtain ⟨tA, tc, fA, fc, hb⟩ := h.lo
  obtain ⟨ws, tb, fr, top⟩ := s
  by_cases h00 : hsize hd = 0
  · refine (loput_any ws tb fr top hd V hb hl hl2 (fun ys' q' hr' => ?_)).mono ?_
    · exfalso
      rcases hr' with ⟨_, _, _, h⟩ | ⟨_, _, _, _, h⟩ | ⟨h, _⟩
      · omega
      · omega
      · omega
    · rintro e w' (⟨h0', he, hx⟩ | ⟨ys', q', er', h0', _⟩ | ⟨ys', q', h0', _⟩)
      · rcases hr with ⟨_, rfl⟩ | ⟨hr, _⟩
        · exact ⟨he, h.grow hx, Two.of_ext hx⟩
        · exact absurd h00 hr
      · exact absurd h00 h0'
      · exact absurd h00 h0'
  · obtain ⟨_, h1, h2⟩ := hr.resolve_left (fun hh => h00 hh.1)
    refine (loput_any ws tb fr top hd V hb hl hl2 (fun ys' q' hr' => ?_)).mono ?_
    · exfalso
      have := take_res hr'
      simp only at h2
      rw [this] at h2
      exact h1 h2.symm
    · rintro e w' (⟨h0', he, hx⟩ | ⟨ys', q', er', h0', hr', h1', he, hx⟩ | ⟨ys', q', h0', hr', _⟩)
      · exact absurd h0' h00
      · have := take_res hr'
        simp only at h2
        rw [this] at h2
        simp only at h2
        subst h2
        exact ⟨he, h.grow hx, Two.of_ext hx⟩
      · exfalso
        have := take_res hr'
        simp only at h2
        rw [this] at h2
        exact h1 h2.symm
theorem lv_mark_none (s : LoD) (z : Int) (h : Lv V0 b p A cap N s V) (hl : s.tb.length ≤ 300000) (h0 : idxZ (findP z) s.tb = -1) :
    Calls Try.prog 48 #[.pointer (some ⟨b, 0, none⟩), .int .i64 z] V (LvPost V0 b p A cap N (.tuple #[.bool false, .int .i64 2]) s V) := by
  obtain ⟨tA, tc, fA, fc, hb⟩ := h.lo
  refine (lomark_none s z V hb (by omega) h0).mono ?_
  rintro e w' ⟨rfl, hx⟩
  exact ⟨rfl, h.grow hx, Two.of_ext hx⟩
theorem lv_mark_again (s : LoD) (z : Int) (k : Nat) (hd : Hd) (h : Lv V0 b p A cap N s V) (hl : s.tb.length ≤ 300000) (h0 : idxZ (findP z) s.tb = (k : Int)) (h1 : headH (some s.ws) z = hd) (h2 : headE (some s.ws) z = 0) (hm : hd.m = true) (hi : -9223372036854775808 ≤ z ∧ z ≤ 9223372036854775807) :
    Calls Try.prog 48 #[.pointer (some ⟨b, 0, none⟩), .int .i64 z] V (LvPost V0 b p A cap N (.tuple #[.bool false, .int .i64 0]) s V) := by
  obtain ⟨tA, tc, fA, fc, hb⟩ := h.lo
  refine (lomark_again s z k hd V hb (by omega) h0 h1 h2 hm hi).mono ?_
  rintro e w' ⟨rfl, hx⟩
  exact ⟨rfl, h.grow hx, Two.of_ext hx⟩
/-- What the first Mark of an object leaves. -/
def markL (ws : List Int) (z top : Int) (hd : Hd) : List Int := osetL (osetL ws z ⟨hd.k, hd.f, hd.r, true, hd.c⟩) z ⟨hd.k, hd.f, hd.r, true, top⟩
theorem lv_mark (s : LoD) (z : Int) (k : Nat) (hd : Hd) (h : Lv V0 b p A cap N s V) (hl : s.tb.length ≤ 300000) (hkl : k < s.tb.length) (hz : (s.tb.getD k (0, 0)).1 = z) (h0 : idxZ (findP z) s.tb = (k : Int)) (h1 : headH (some s.ws) z = hd) (h2 : headE (some s.ws) z = 0) (hm : hd.m = false)
    (hi : -9223372036854775808 ≤ z ∧ z ≤ 9223372036854775807) (hs : osetE s.ws z ⟨hd.k, hd.f, hd.r, true, hd.c⟩ = 0) (h3 : headH (some (osetL s.ws z ⟨hd.k, hd.f, hd.r, true, hd.c⟩)) z = ⟨hd.k, hd.f, hd.r, true, hd.c⟩) (h4 : headE (some (osetL s.ws z ⟨hd.k, hd.f, hd.r, true, hd.c⟩)) z = 0)
    (htop : 0 ≤ s.top ∧ s.top ≤ 1048576) (hs2 : osetE (osetL s.ws z ⟨hd.k, hd.f, hd.r, true, hd.c⟩) z ⟨hd.k, hd.f, hd.r, true, s.top⟩ = 0) :
    Calls Try.prog 48 #[.pointer (some ⟨b, 0, none⟩), .int .i64 z] V (LvPost V0 b p A cap N (.tuple #[.bool true, .int .i64 0]) ⟨markL s.ws z s.top hd, s.tb, s.fr, (k : Int) + 1⟩ V) := by
  obtain ⟨tA, tc, fA, fc, hb⟩ := h.lo
  obtain ⟨ws, tb, fr, top⟩ := s
  obtain ⟨hk, hf, hr, hm', hc⟩ := hd
  simp only at hm
  subst hm
  refine (lomark_first ws tb fr top z k hk hf hr hc V hb (by simp only at hl; omega) hkl hz h0 h1 h2 hi hs _ rfl h3 h4 htop hs2).mono ?_
  rintro e w' ⟨rfl, hlo⟩
  have hN := h.len
  simp only at hN
  rw [hN] at hlo
  exact ⟨rfl, h.to hlo (by rw [← hN]; simp only [markL, osetL_len]), hlo.2⟩
theorem lv_pop0 (s : LoD) (h : Lv V0 b p A cap N s V) (h0 : s.top < 1) : Calls Try.prog 49 #[.pointer (some ⟨b, 0, none⟩)] V (LvPost V0 b p A cap N (.tuple #[.int .i64 0, .bool false]) s V) := by
  obtain ⟨tA, tc, fA, fc, hb⟩ := h.lo
  refine (lopop_zero s V hb h0).mono ?_
  rintro e w' ⟨rfl, hx⟩
  exact ⟨rfl, h.grow hx, Two.of_ext hx⟩
theorem lv_pop (s : LoD) (k : Nat) (z : Int) (hd : Hd) (h : Lv V0 b p A cap N s V) (htop : s.top = (k : Int) + 1) (hk : k < s.tb.length) (hz : (s.tb.getD k (0, 0)).1 = z) (h1 : headH (some s.ws) z = hd) (h2 : headE (some s.ws) z = 0) (hi : -9223372036854775808 ≤ z ∧ z ≤ 9223372036854775807) (hl : s.tb.length ≤ 300000)
    (hs : osetE s.ws z ⟨hd.k, hd.f, hd.r, hd.m, 0⟩ = 0) :
    Calls Try.prog 49 #[.pointer (some ⟨b, 0, none⟩)] V (LvPost V0 b p A cap N (.tuple #[.int .i64 z, .bool true]) ⟨osetL s.ws z ⟨hd.k, hd.f, hd.r, hd.m, 0⟩, s.tb, s.fr, hd.c⟩ V) := by
  obtain ⟨tA, tc, fA, fc, hb⟩ := h.lo
  obtain ⟨ws, tb, fr, top⟩ := s
  simp only at htop
  subst htop hz
  refine (lopop_one ws tb fr k hk hd V hb h1 h2 hi (by simp only at hl; omega) hs).mono ?_
  rintro e w' ⟨rfl, hlo⟩
  have hN := h.len
  simp only at hN
  rw [hN] at hlo
  exact ⟨rfl, h.to hlo (by rw [← hN]; simp only [osetL_len]), hlo.2⟩
/-- What Sweep leaves. -/
def sweepL (s : LoD) : LoD := ⟨clearsL s.ws (dropsL s.tb (goneL s.ws s.tb)), dropsL s.tb (goneL s.ws s.tb), givesL s.fr (goneL s.ws s.tb), 0⟩
def SwPost (V0 : World) (b p : Nat) (A : Option Addr) (cap N : Nat) (s : LoD) (V : World) (e : Ending) (w' : World) : Prop :=
  ∃ (gA : Option Addr) (gc m : Nat), m = (goneL s.ws s.tb).length ∧ e = .returned (.tuple #[.slice gA m gc, .int .i64 0]) ∧ Own 23 2 spanC w' V.heap.size (.slice gA m gc) (goneL s.ws s.tb) ∧ Lv V0 b p A cap N (sweepL s) w' ∧ Two b (Value.slice A N cap).ownBlock V w'
theorem lv_sweep (s : LoD) (h : Lv V0 b p A cap N s V) (hl : s.tb.length ≤ 100000) (hl2 : s.fr.length ≤ 100000) (hhe : ∀ x ∈ s.tb, headE (some s.ws) x.1 = 0) (htb : ∀ x ∈ s.tb, (-9223372036854775808 ≤ x.1 ∧ x.1 ≤ 9223372036854775807)) :
    Calls Try.prog 50 #[.pointer (some ⟨b, 0, none⟩)] V (SwPost V0 b p A cap N s V) := by
  obtain ⟨tA, tc, fA, fc, hb⟩ := h.lo
  obtain ⟨ws, tb, fr, top⟩ := s
  refine (losweep_any ws tb fr top V hb hl hl2 hhe htb).mono ?_
  rintro e w' ⟨gA, gc, m, hm, he, ho, hlo⟩
  have hN := h.len
  simp only at hN
  rw [hN] at hlo
  exact ⟨gA, gc, m, hm, he, ho, h.to hlo (by rw [← hN]; exact clearsL_len _ _), hlo.2⟩
theorem lv_table (s : LoD) (n : Nat) (hn : s.tb.length = n) (h : Lv V0 b p A cap N s V) (hl : n ≤ 98304) :
    Calls Try.prog 47 #[.pointer (some ⟨b, 0, none⟩)] V fun e w' => ∃ A2 cap2, e = .returned (.slice A2 n cap2) ∧ Own 23 2 spanC w' V.heap.size (.slice A2 n cap2) s.tb ∧ Ext V w' := by
  subst hn
  obtain ⟨tA, tc, fA, fc, hb⟩ := h.lo
  exact lotable_yes b V hb.blk hb.tab.spans hl
theorem lv_free (s : LoD) (n : Nat) (hn : s.fr.length = n) (h : Lv V0 b p A cap N s V) (hl : n ≤ 98304) :
    Calls Try.prog 53 #[.pointer (some ⟨b, 0, none⟩)] V fun e w' => ∃ A2 cap2, e = .returned (.slice A2 n cap2) ∧ Own 23 2 spanC w' V.heap.size (.slice A2 n cap2) s.fr ∧ Ext V w' := by
  subst hn
  obtain ⟨tA, tc, fA, fc, hb⟩ := h.lo
  exact lofree_yes b V hb.blk hb.fre.spans hl
end
end Go.Proofs.Ytkcpfimhbogdcaa

/- Layer 13's awake: its states. -/
set_option linter.unusedSimpArgs false
set_option linter.unusedVariables false
namespace Go.Proofs.Ytkcpfimhbogdcaa
open Go.RowKit Go.Shelf

def s13a : LoD := ⟨[0, 0, 0, 0, 0, 0, 0, 0, 0, 0, 0, 0], [], [(2, 10)], 0⟩
def s13b : LoD := ⟨[0, 0, 33554435, 0, 0, 0, 0, 0, 0, 0, 0, 0], [(2, 3)], [(5, 7)], 0⟩
def s13c : LoD := ⟨[0, 0, 33554435, 0, 0, 771, 0, 0, 0, 0, 0, 0], [(2, 3), (5, 4)], [(9, 3)], 0⟩
def s13d : LoD := ⟨[0, 0, 33554435, 0, 0, 775, 0, 0, 0, 0, 0, 0], [(2, 3), (5, 4)], [(9, 3)], 2⟩
def s13e : LoD := ⟨[0, 0, 33554435, 0, 0, 775, 0, 0, 0, 0, 0, 0], [(2, 3), (5, 4)], [(9, 3)], 0⟩
def s13f : LoD := ⟨[0, 0, 33554435, 0, 0, 771, 0, 0, 0, 0, 0, 0], [(5, 4)], [(2, 3), (9, 3)], 0⟩
section
variable {V0 : World} {b p : Nat} {A : Option Addr} {cap : Nat} {V : World}
theorem s13_put1 (h : Lv V0 b p A cap 12 s13a V) : Calls Try.prog 46 #[.pointer (some ⟨b, 0, none⟩), .agg #[.int .i64 0, .int .i64 0, .int .i64 2, .bool false, .int .i64 0]] V (LvPost V0 b p A cap 12 (.tuple #[.int .i64 2, .int .i64 0]) s13b V) := by
  have Z := lv_put s13a ⟨0, 0, 2, false, 0⟩ [(5, 7)] 2 3 h (by decide) (by decide) (by decide) (by decide) (by decide) (by decide) (by decide)
  rwa [show putE s13a.ws 2 ⟨0, 0, 2, false, 0⟩ = 0 from by decide, show putL s13a.ws 2 ⟨0, 0, 2, false, 0⟩ = s13b.ws from by decide, show addL 2 3 s13a.tb = s13b.tb from by decide] at Z
theorem s13_put2 (h : Lv V0 b p A cap 12 s13b V) : Calls Try.prog 46 #[.pointer (some ⟨b, 0, none⟩), .agg #[.int .i64 0, .int .i64 3, .int .i64 0, .bool false, .int .i64 0]] V (LvPost V0 b p A cap 12 (.tuple #[.int .i64 5, .int .i64 0]) s13c V) := by
  have Z := lv_put s13b ⟨0, 3, 0, false, 0⟩ [(9, 3)] 5 4 h (by decide) (by decide) (by decide) (by decide) (by decide) (by decide) (by decide)
  rwa [show putE s13b.ws 5 ⟨0, 3, 0, false, 0⟩ = 0 from by decide, show putL s13b.ws 5 ⟨0, 3, 0, false, 0⟩ = s13c.ws from by decide, show addL 5 4 s13b.tb = s13c.tb from by decide] at Z
theorem s13_mark1 (h : Lv V0 b p A cap 12 s13c V) : Calls Try.prog 48 #[.pointer (some ⟨b, 0, none⟩), .int .i64 5] V (LvPost V0 b p A cap 12 (.tuple #[.bool true, .int .i64 0]) s13d V) := by
  have Z := lv_mark s13c 5 1 ⟨0, 3, 0, false, 0⟩ h (by decide) (by decide) (by decide) (by decide) (by rfl) (by decide) rfl (by decide) (by decide) (by rfl) (by decide) (by decide) (by decide)
  rwa [show markL s13c.ws 5 s13c.top ⟨0, 3, 0, false, 0⟩ = s13d.ws from by decide, show ((1 : Nat) : Int) + 1 = s13d.top from rfl] at Z
theorem s13_mark2 (h : Lv V0 b p A cap 12 s13d V) : Calls Try.prog 48 #[.pointer (some ⟨b, 0, none⟩), .int .i64 5] V (LvPost V0 b p A cap 12 (.tuple #[.bool false, .int .i64 0]) s13d V) :=
  lv_mark_again s13d 5 1 ⟨0, 3, 0, true, 0⟩ h (by decide) (by decide) (by rfl) (by decide) rfl (by decide)
theorem s13_pop1 (h : Lv V0 b p A cap 12 s13d V) : Calls Try.prog 49 #[.pointer (some ⟨b, 0, none⟩)] V (LvPost V0 b p A cap 12 (.tuple #[.int .i64 5, .bool true]) s13e V) := by
  have Z := lv_pop s13d 1 5 ⟨0, 3, 0, true, 0⟩ h rfl (by decide) (by decide) (by rfl) (by decide) (by decide) (by decide) (by decide)
  rwa [show osetL s13d.ws 5 ⟨0, 3, 0, true, 0⟩ = s13e.ws from by decide] at Z
theorem s13_pop2 (h : Lv V0 b p A cap 12 s13e V) : Calls Try.prog 49 #[.pointer (some ⟨b, 0, none⟩)] V (LvPost V0 b p A cap 12 (.tuple #[.int .i64 0, .bool false]) s13e V) := lv_pop0 s13e h (by decide)
theorem s13_gone : goneL s13e.ws s13e.tb = [(2, 3)] := by decide
theorem s13_join : joinL ([(9, 3)] ++ [(2, 3)]) = [(2, 3), (9, 3)] := by
  show joinL [(9, 3), (2, 3)] = _
  rw [joinL, ← sortS_unique (z := [(2, 3), (9, 3)]) (List.Perm.swap _ _ _) (by decide)]
  decide
theorem s13_swept : sweepL s13e = s13f := by
  rw [sweepL, s13_gone]
  have e1 : givesL s13e.fr [(2, 3)] = [(2, 3), (9, 3)] := by
    show giveL [(9, 3)] (2, 3) = _
    rw [giveL, if_pos (by decide)]
    exact s13_join
  have e2 : dropsL s13e.tb [(2, 3)] = [(5, 4)] := by decide
  have e3 : clearsL s13e.ws [(5, 4)] = s13f.ws := by decide
  rw [e1, e2, e3]
  rfl
theorem s13_sweep (h : Lv V0 b p A cap 12 s13e V) : Calls Try.prog 50 #[.pointer (some ⟨b, 0, none⟩)] V fun e w' => ∃ gA gc, e = .returned (.tuple #[.slice gA 1 gc, .int .i64 0]) ∧ Own 23 2 spanC w' V.heap.size (.slice gA 1 gc) [(2, 3)] ∧ Lv V0 b p A cap 12 s13f w' := by
  refine (lv_sweep s13e h (by decide) (by decide) (by decide) (by decide)).mono ?_
  rintro e w' ⟨gA, gc, m, rfl, rfl, ho, hl, _⟩
  rw [s13_gone] at ho ⊢
  rw [s13_swept] at hl
  exact ⟨gA, gc, rfl, ho, hl⟩
theorem s13_mark3 (h : Lv V0 b p A cap 12 s13f V) : Calls Try.prog 48 #[.pointer (some ⟨b, 0, none⟩), .int .i64 2] V (LvPost V0 b p A cap 12 (.tuple #[.bool false, .int .i64 2]) s13f V) := lv_mark_none s13f 2 h (by decide) (by decide)
theorem s13_put3 (h : Lv V0 b p A cap 12 s13f V) : Calls Try.prog 46 #[.pointer (some ⟨b, 0, none⟩), .agg #[.int .i64 0, .int .i64 0, .int .i64 9, .bool false, .int .i64 0]] V (LvPost V0 b p A cap 12 (.tuple #[.int .i64 0, .int .i64 9]) s13f V) :=
  lv_put_no s13f ⟨0, 0, 9, false, 0⟩ 9 h (.inr ⟨by decide, by decide, by decide⟩) (by decide) (by decide)
theorem s13_led : ledR 2 10 [] [(2, 10)] = true := by
  rw [ledR_of (led_nil _ _) (gaps_new (by decide))]
  simp
end
end Go.Proofs.Ytkcpfimhbogdcaa

/- Layer 13's awake, walked. -/
set_option linter.unusedSimpArgs false
set_option linter.unusedVariables false
namespace Go.Proofs.Ytkcpfimhbogdcaa
open Go.RowKit Go.Shelf
set_option maxRecDepth 100000
set_option maxHeartbeats 2000000
theorem awake13_any (V : World) : Calls Try.prog 44 #[] V fun e w' => e = .returned (.bool true) ∧ Ext V w' := by
  go_enter Try.func44, Try.ntmps44
  go_wp2_with fail
  refine (anew_any 12 (by omega) (by omega) V).mono ?_
  rintro e w1 ⟨⟨p, A, cap, rfl, hA⟩, hx⟩
  have HA : Pers w1 (fun w => ArO V.heap.size w p A cap s13a.ws) := fun w k => hA.ext k
  have HX := Lib.hid hx
  clear hA hx
  go_wp2_with fail
  have hy := ((Ext.refl w1).alloc (.cells #[.int .i64 2, .int .i64 10] 23)).alloc (.cells #[.int .i64 2, .int .i64 10] 23)
  have hr : SpansAt ((w1.alloc (.cells #[.int .i64 2, .int .i64 10] 23)).alloc (.cells #[.int .i64 2, .int .i64 10] 23)) (some ⟨w1.heap.size + 1, 0, none⟩) [(2, 10)] := row_litb _ _ (by simp) _ rfl spanCells (by decide)
  generalize (w1.alloc (.cells #[.int .i64 2, .int .i64 10] 23)).alloc (.cells #[.int .i64 2, .int .i64 10] 23) = W at *
  generalize w1.heap.size + 1 = X at *
  have Z := losnew_empty V.heap.size p A cap s13a.ws 2 10 (some ⟨X, 0, none⟩) 1 [(2, 10)] W (HA.at hy) hr (by decide) (by decide) s13_led (by decide)
  refine Z.mono ?_
  clear Z
  rintro e w2 ⟨b, rfl, hlo, hx⟩
  have HL : Hid (Lv V b p A cap 12 s13a w2) := Lib.hid ⟨hlo, HX.out.trans (hy.trans hx), rfl⟩
  clear hlo hx hy hr HA HX
  go_wp2_with fail
  refine (s13_put1 HL.out).mono ?_
  rintro e w ⟨rfl, hl, -⟩; replace HL := Lib.hid hl; clear hl; go_wp2_with fail
  refine (s13_put2 HL.out).mono ?_
  rintro e w ⟨rfl, hl, -⟩; replace HL := Lib.hid hl; clear hl; go_wp2_with fail
  refine (s13_mark1 HL.out).mono ?_
  rintro e w ⟨rfl, hl, -⟩; replace HL := Lib.hid hl; clear hl; go_wp2_with fail
  refine (s13_mark2 HL.out).mono ?_
  rintro e w ⟨rfl, hl, -⟩; replace HL := Lib.hid hl; clear hl; go_wp2_with fail
  refine (s13_pop1 HL.out).mono ?_
  rintro e w ⟨rfl, hl, -⟩; replace HL := Lib.hid hl; clear hl; go_wp2_with fail
  refine (s13_pop2 HL.out).mono ?_
  rintro e w ⟨rfl, hl, -⟩; replace HL := Lib.hid hl; clear hl; go_wp2_with fail
  refine (s13_sweep HL.out).mono ?_
  rintro e ws ⟨gA, gc, rfl, ho, hl⟩
  replace HL := Lib.hid hl
  have HG := pers_own ho
  clear hl ho
  go_wp2_with fail
  refine (s13_mark3 HL.out).mono ?_
  rintro e wm ⟨rfl, hl, ht⟩
  have HG2 := pers_own (HL.out.keep ht HG.here (by decide) (by decide))
  replace HL := Lib.hid hl
  clear hl ht HG
  go_wp2_with fail
  refine (s13_put3 HL.out).mono ?_
  rintro e wn ⟨rfl, hl, ht⟩
  have HG := pers_own (HL.out.keep ht HG2.here (by decide) (by decide))
  replace HL := Lib.hid hl
  clear hl ht HG2
  go_wp2_with fail
  refine (loput_no (.pointer none) ⟨0, 0, 0, false, 0⟩ wn (.inl rfl)).mono ?_
  rintro e wo ⟨rfl, hx⟩
  (replace HG := HG.re hx)
  replace HL := Lib.hid (HL.out.grow hx)
  clear hx
  obtain ⟨g, rfl, -, -⟩ := own_some HG.here (by decide)
  have j1 := own_get spanCells (by decide) HG.here rfl 0 0 (by decide) _ rfl
  simp only [Nat.zero_mul, Nat.add_zero, List.getElem_cons_zero] at j1
  go_wp2_with fail
  clear j1
  refine (lv_table s13f 1 rfl HL.out (by decide)).mono ?_
  rintro e wp ⟨A2, cap2, rfl, -, hx⟩
  replace HL := Lib.hid (HL.out.grow hx)
  clear hx
  go_wp2_with fail
  refine (lv_free s13f 2 rfl HL.out (by decide)).mono ?_
  rintro e wq ⟨A3, cap3, rfl, ho, hx⟩
  obtain ⟨g3, rfl, -, -⟩ := own_some ho (by decide)
  have j1 := own_get spanCells (by decide) ho rfl 0 0 (by decide) _ rfl
  have j2 := own_get spanCells (by decide) ho rfl 0 1 (by decide) _ rfl
  simp only [Nat.zero_mul, Nat.add_zero, Nat.zero_add, s13f, List.getElem_cons_zero] at j1 j2
  replace HL := Lib.hid (HL.out.grow hx)
  clear hx ho
  go_wp2_with fail
  go_ret
  exact ⟨rfl, HL.out.ext⟩
end Go.Proofs.Ytkcpfimhbogdcaa

/- The law LosNobody. -/
set_option linter.unusedSimpArgs false
set_option linter.unusedVariables false
namespace Go.Proofs.Ytkcpfimhbogdcaa
open Go.RowKit Go.Shelf
set_option maxRecDepth 100000
set_option maxHeartbeats 2000000
theorem losNobody_any (at_ : Int) (hd : Hd) (a s : Int) (V : World) : Calls Try.prog 11 #[.int .i64 at_, .agg #[.int .i64 hd.k, .int .i64 hd.f, .int .i64 hd.r, .bool hd.m, .int .i64 hd.c], .agg #[.int .i64 (a), .int .i64 (s)]] V fun e w' => e = .returned (.bool true) ∧ Ext V w' := by
  have hx0 := ((Ext.refl V).alloc (.cells #[.int .i64 hd.k, .int .i64 hd.f, .int .i64 hd.r, .bool hd.m, .int .i64 hd.c] 47)).alloc (.cells #[.int .i64 a, .int .i64 s] 23)
  have HH := pers_new2 V #[.int .i64 hd.k, .int .i64 hd.f, .int .i64 hd.r, .bool hd.m, .int .i64 hd.c] 47 _ rfl (.cells #[.int .i64 a, .int .i64 s] 23)
  have HX := Lib.hid hx0
  clear hx0
  go_enter Try.func11, Try.ntmps11
  go_wp2_with fail
  generalize (V.alloc (.cells #[.int .i64 hd.k, .int .i64 hd.f, .int .i64 hd.r, .bool hd.m, .int .i64 hd.c] 47)).alloc (.cells #[.int .i64 a, .int .i64 s] 23) = W at *
  generalize V.heap.size = H at *
  refine (losnew_no a s (.slice none 0 0) (.slice none 0 0) W).mono ?_
  rintro e w1 ⟨rfl, hx⟩
  replace HX := Lib.hid (HX.out.trans hx)
  replace HH := HH.re hx
  clear hx
  have gh := (cells_of HH.here).1
  go_wp2_with fail
  refine wp_loop_rounds 3 ?_
  rw [rounds_succ]
  go_wp2_with fail
  clear gh
  have HN : Hid (LoN w1 (.pointer none)) := Lib.hid (.inl rfl)
  ((refine (loput_no _ hd _ HN.out).mono ?_); (rintro e w ⟨rfl, hx⟩; replace HN := Lib.hid (HN.out.ext hx); replace HX := Lib.hid (HX.out.trans hx); replace HH := HH.re hx; clear hx; have gh := (cells_of HH.here).1; go_wp2_with fail; (try clear gh)); (refine (lomark_no _ at_ _ HN.out).mono ?_); (rintro e w ⟨rfl, hx⟩; replace HN := Lib.hid (HN.out.ext hx); replace HX := Lib.hid (HX.out.trans hx); replace HH := HH.re hx; clear hx; have gh := (cells_of HH.here).1; go_wp2_with fail; (try clear gh)); (refine (lopop_no _ _ HN.out).mono ?_); (rintro e w ⟨rfl, hx⟩; replace HN := Lib.hid (HN.out.ext hx); replace HX := Lib.hid (HX.out.trans hx); replace HH := HH.re hx; clear hx; have gh := (cells_of HH.here).1; go_wp2_with fail; (try clear gh)); (refine (losweep_no _ _ HN.out).mono ?_); (rintro e w ⟨rfl, hx⟩; replace HN := Lib.hid (HN.out.ext hx); replace HX := Lib.hid (HX.out.trans hx); replace HH := HH.re hx; clear hx; have gh := (cells_of HH.here).1; go_wp2_with fail; (try clear gh)); (refine (lotable_no _ _ HN.out).mono ?_); (rintro e w ⟨rfl, hx⟩; replace HN := Lib.hid (HN.out.ext hx); replace HX := Lib.hid (HX.out.trans hx); replace HH := HH.re hx; clear hx; have gh := (cells_of HH.here).1; go_wp2_with fail; (try clear gh)); (refine (lofree_no _ _ HN.out).mono ?_); (rintro e w ⟨rfl, hx⟩; replace HN := Lib.hid (HN.out.ext hx); replace HX := Lib.hid (HX.out.trans hx); replace HH := HH.re hx; clear hx; have gh := (cells_of HH.here).1; go_wp2_with fail; (try clear gh)))
  rw [rounds_succ]
  have gh := (cells_of HH.here).1
  have qh := lt_of_heap HH.here
  go_wp2_with fail
  clear gh qh
  have hz := (Ext.refl w).alloc (.cells #[.bool false, .pointer none, .slice none 0 0, .slice none 0 0, .int .i64 0] 102)
  replace HN : Hid (LoN (w.alloc (.cells #[.bool false, .pointer none, .slice none 0 0, .slice none 0 0, .int .i64 0] 102)) (.pointer (some ⟨w.heap.size, 0, none⟩))) := Lib.hid (.inr ⟨w.heap.size, #[.bool false, .pointer none, .slice none 0 0, .slice none 0 0, .int .i64 0], rfl, World.alloc_heap_new _ _, rfl⟩)
  replace HX := Lib.hid (HX.out.trans hz)
  replace HH := HH.re hz
  clear hz
  generalize w.alloc (.cells #[.bool false, .pointer none, .slice none 0 0, .slice none 0 0, .int .i64 0] 102) = W2 at *
  generalize w.heap.size = Q at *
  ((refine (loput_no _ hd _ HN.out).mono ?_); (rintro e w ⟨rfl, hx⟩; replace HN := Lib.hid (HN.out.ext hx); replace HX := Lib.hid (HX.out.trans hx); replace HH := HH.re hx; clear hx; have gh := (cells_of HH.here).1; go_wp2_with fail; (try clear gh)); (refine (lomark_no _ at_ _ HN.out).mono ?_); (rintro e w ⟨rfl, hx⟩; replace HN := Lib.hid (HN.out.ext hx); replace HX := Lib.hid (HX.out.trans hx); replace HH := HH.re hx; clear hx; have gh := (cells_of HH.here).1; go_wp2_with fail; (try clear gh)); (refine (lopop_no _ _ HN.out).mono ?_); (rintro e w ⟨rfl, hx⟩; replace HN := Lib.hid (HN.out.ext hx); replace HX := Lib.hid (HX.out.trans hx); replace HH := HH.re hx; clear hx; have gh := (cells_of HH.here).1; go_wp2_with fail; (try clear gh)); (refine (losweep_no _ _ HN.out).mono ?_); (rintro e w ⟨rfl, hx⟩; replace HN := Lib.hid (HN.out.ext hx); replace HX := Lib.hid (HX.out.trans hx); replace HH := HH.re hx; clear hx; have gh := (cells_of HH.here).1; go_wp2_with fail; (try clear gh)); (refine (lotable_no _ _ HN.out).mono ?_); (rintro e w ⟨rfl, hx⟩; replace HN := Lib.hid (HN.out.ext hx); replace HX := Lib.hid (HX.out.trans hx); replace HH := HH.re hx; clear hx; have gh := (cells_of HH.here).1; go_wp2_with fail; (try clear gh)); (refine (lofree_no _ _ HN.out).mono ?_); (rintro e w ⟨rfl, hx⟩; replace HN := Lib.hid (HN.out.ext hx); replace HX := Lib.hid (HX.out.trans hx); replace HH := HH.re hx; clear hx; have gh := (cells_of HH.here).1; go_wp2_with fail; (try clear gh)))
  rw [rounds_succ]
  go_wp2_with fail
  refine (awake13_any _).mono ?_
  rintro e wf ⟨rfl, hx⟩
  replace HX := Lib.hid (HX.out.trans hx)
  clear hx
  go_wp2_with fail
  go_ret
  exact ⟨rfl, HX.out⟩
section
open Go.WideShapes Go.ChangeShapes Go.ChangeAt Go.Joins Go.Deep
variable {H : Type} {enc : TypeId × Value → H} {w : World} {base : Nat} {spare : Nat → Bool} {held : Bool} {v : Value} {d : DataW H} {p : List MemPlace} {r : Reach} {b0 : Nat}
theorem opens_hd : Opens enc Try.prog w base spare held 47 (fun h : Hd => [.int .i64 h.k, .int .i64 h.f, .int .i64 h.r, .bool h.m, .int .i64 h.c]) (fun h => (-9223372036854775808 ≤ h.k ∧ h.k ≤ 9223372036854775807) ∧ (-9223372036854775808 ≤ h.f ∧ h.f ≤ 9223372036854775807) ∧ (-9223372036854775808 ≤ h.r ∧ h.r ≤ 9223372036854775807) ∧ (-9223372036854775808 ≤ h.c ∧ h.c ≤ 9223372036854775807)) :=
  (opens_struct Try.underlying47 (by kernel_rfl) (fields_cons (c := 1) (opens_int Try.underlying3) (by kernel_rfl) rfl (by kernel_rfl) (fields_cons (c := 1) (opens_int Try.underlying3) (by kernel_rfl) rfl (by kernel_rfl) (fields_cons (c := 1) (opens_int Try.underlying3) (by kernel_rfl) rfl (by kernel_rfl) (fields_cons (c := 1) (opens_bool Try.underlying4) (by kernel_rfl) rfl (by kernel_rfl) (fields_cons (c := 1) (opens_int Try.underlying3) (by kernel_rfl) rfl (by kernel_rfl) fields_nil)))))).map
    (fun x => ⟨x.1, x.2.1, x.2.2.1, x.2.2.2.1, x.2.2.2.2.1⟩) (fun _ => rfl) (fun x h => ⟨h.1, h.2.1, h.2.2.1, h.2.2.2.2.1⟩)
theorem open_hd (hv : Value.okWide Try.prog w r b0 47 v) (h : DataW.Trod enc Try.prog w base spare held 47 v d p) (hw : WOK Try.prog 47 d) : ∃ h : Hd, v = .agg #[.int .i64 h.k, .int .i64 h.f, .int .i64 h.r, .bool h.m, .int .i64 h.c] ∧ ((-9223372036854775808 ≤ h.k ∧ h.k ≤ 9223372036854775807) ∧ (-9223372036854775808 ≤ h.f ∧ h.f ≤ 9223372036854775807) ∧ (-9223372036854775808 ≤ h.r ∧ h.r ≤ 9223372036854775807) ∧ (-9223372036854775808 ≤ h.c ∧ h.c ≤ 9223372036854775807)) :=
  opens_hd.agg Try.underlying47 hv h hw
end
abbrev IsHd (v : Value) : Prop := ∃ h : Hd, v = .agg #[.int .i64 h.k, .int .i64 h.f, .int .i64 h.r, .bool h.m, .int .i64 h.c] ∧ ((-9223372036854775808 ≤ h.k ∧ h.k ≤ 9223372036854775807) ∧ (-9223372036854775808 ≤ h.f ∧ h.f ≤ 9223372036854775807) ∧ (-9223372036854775808 ≤ h.r ∧ h.r ≤ 9223372036854775807) ∧ (-9223372036854775808 ≤ h.c ∧ h.c ≤ 9223372036854775807))
theorem losNobody_fin {p : Int} {v1 v2 : Value} {w : World} (h0 : (Lit.int .i64 p).wf = true) (h1 : IsHd v1) (h2 : IsSpan v2) : Calls Try.prog 11 #[.int .i64 p, v1, v2] w fun e w' => e = .returned (.bool true) ∧ Ext w w' := by
  obtain ⟨h, rfl, _⟩ := h1
  obtain ⟨a, s, rfl, _⟩ := h2
  exact losNobody_any p h a s w
end Go.Proofs.Ytkcpfimhbogdcaa

/- Nobody's run does nothing. -/
set_option linter.unusedSimpArgs false
set_option linter.unusedVariables false
namespace Go.Proofs.Ytkcpfimhbogdcaa
open Go.RowKit Go.Shelf
set_option maxRecDepth 100000
set_option maxHeartbeats 1000000
/-- There is none, or it was never made. -/
def CrN (w : World) (v : Value) : Prop := v = .pointer none ∨ ∃ b cs, v = .pointer (some ⟨b, 0, none⟩) ∧ w.heap[b]? = some (.cells cs 106 (0, 0)) ∧ cs[0]? = some (.bool false)
theorem CrN.ext {w w' : World} {v : Value} (h : CrN w v) (hx : Ext w w') : CrN w' v := by
  rcases h with rfl | ⟨b, cs, rfl, h1, h2⟩
  · exact .inl rfl
  · exact .inr ⟨b, cs, rfl, (hx.block (lt_of_heap h1)).trans h1, h2⟩
theorem crdead_yes (v : Value) (V : World) (h : CrN V v) : Calls Try.prog 96 #[v] V fun e w' => e = .returned (.bool true) ∧ Ext V w' := by
  rcases h with rfl | ⟨b, cs, rfl, h1, h2⟩
  · go_enter Try.func96, Try.ntmps96
    go_wp2_with fail
    go_ret
    exact ⟨rfl, Ext.refl _⟩
  · have k1 : V.cell? ⟨b, 0, none⟩ = some (.bool false) := ((cells_of h1).1 0).trans h2
    clear h1 h2
    go_enter Try.func96, Try.ntmps96
    go_wp2_with fail
    go_ret
    exact ⟨rfl, Ext.refl _⟩
theorem crtake_no (v : Value) (i : Int) (V : World) (h : CrN V v) : Calls Try.prog 57 #[v, .int .i64 i] V fun e w' => e = .returned (.tuple #[.int .i64 0, .int .i64 10]) ∧ Ext V w' := by
  (have HN := Lib.hid h; have HX0 := Lib.hid (Ext.refl V); clear h)
  go_enter Try.func57, Try.ntmps57
  (go_wp2_with fail; refine (crdead_yes v _ HN.out).mono ?_; rintro e w1 ⟨rfl, hx⟩; have HX := Lib.hid (HX0.out.trans hx); clear hx; go_wp2_with fail)
  ((try simp only [Exit.inBlock, Exit.then]); refine bodyPost_ret (v := .tuple #[.int .i64 0, .int .i64 10]) (by simp only [results, Try.results57]; go_simp) rfl ?_)
  exact ⟨rfl, HX.out⟩
theorem crforward_no (v : Value) (i : Int) (V : World) (h : CrN V v) : Calls Try.prog 39 #[v, .int .u64 i] V fun e w' => e = .returned (.tuple #[.int .u64 0, .bool false, .int .i64 10]) ∧ Ext V w' := by
  (have HN := Lib.hid h; have HX0 := Lib.hid (Ext.refl V); clear h)
  go_enter Try.func39, Try.ntmps39
  (go_wp2_with fail; refine (crdead_yes v _ HN.out).mono ?_; rintro e w1 ⟨rfl, hx⟩; have HX := Lib.hid (HX0.out.trans hx); clear hx; go_wp2_with fail)
  ((try simp only [Exit.inBlock, Exit.then]); refine bodyPost_ret (v := .tuple #[.int .u64 0, .bool false, .int .i64 10]) (by simp only [results, Try.results39]; go_simp) rfl ?_)
  exact ⟨rfl, HX.out⟩
theorem crfield_no (v : Value) (i k : Int) (V : World) (h : CrN V v) : Calls Try.prog 58 #[v, .int .i64 i, .int .i64 k] V fun e w' => e = .returned (.tuple #[.int .i64 0, .bool false, .int .i64 10]) ∧ Ext V w' := by
  (have HN := Lib.hid h; have HX0 := Lib.hid (Ext.refl V); clear h)
  go_enter Try.func58, Try.ntmps58
  (go_wp2_with fail; refine (crdead_yes v _ HN.out).mono ?_; rintro e w1 ⟨rfl, hx⟩; have HX := Lib.hid (HX0.out.trans hx); clear hx; go_wp2_with fail)
  ((try simp only [Exit.inBlock, Exit.then]); refine bodyPost_ret (v := .tuple #[.int .i64 0, .bool false, .int .i64 10]) (by simp only [results, Try.results58]; go_simp) rfl ?_)
  exact ⟨rfl, HX.out⟩
theorem crroots_no (v l : Value) (V : World) (h : CrN V v) : Calls Try.prog 59 #[v, l] V fun e w' => e = .returned (.tuple #[.slice none 0 0, .int .i64 10]) ∧ Ext V w' := by
  (have HN := Lib.hid h; have HX0 := Lib.hid (Ext.refl V); clear h)
  go_enter Try.func59, Try.ntmps59
  (go_wp2_with fail; refine (crdead_yes v _ HN.out).mono ?_; rintro e w1 ⟨rfl, hx⟩; have HX := Lib.hid (HX0.out.trans hx); clear hx; go_wp2_with fail)
  ((try simp only [Exit.inBlock, Exit.then]); refine bodyPost_ret (v := .tuple #[.slice none 0 0, .int .i64 10]) (by simp only [results, Try.results59]; go_simp) rfl ?_)
  exact ⟨rfl, HX.out⟩
theorem crobject_no (v : Value) (i : Int) (V : World) (h : CrN V v) : Calls Try.prog 63 #[v, .int .i64 i] V fun e w' => e = .returned (.int .i64 10) ∧ Ext V w' := by
  (have HN := Lib.hid h; have HX0 := Lib.hid (Ext.refl V); clear h)
  go_enter Try.func63, Try.ntmps63
  (go_wp2_with fail; refine (crdead_yes v _ HN.out).mono ?_; rintro e w1 ⟨rfl, hx⟩; have HX := Lib.hid (HX0.out.trans hx); clear hx; go_wp2_with fail)
  go_ret
  exact ⟨rfl, HX.out⟩
theorem crlarge_no (v : Value) (V : World) (h : CrN V v) : Calls Try.prog 60 #[v] V fun e w' => e = .returned (.tuple #[.int .i64 0, .bool false]) ∧ Ext V w' := by
  (have HN := Lib.hid h; have HX0 := Lib.hid (Ext.refl V); clear h)
  go_enter Try.func60, Try.ntmps60
  (go_wp2_with fail; refine (crdead_yes v _ HN.out).mono ?_; rintro e w1 ⟨rfl, hx⟩; have HX := Lib.hid (HX0.out.trans hx); clear hx; go_wp2_with fail)
  ((try simp only [Exit.inBlock, Exit.then]); refine bodyPost_ret (v := .tuple #[.int .i64 0, .bool false]) (by simp only [results, Try.results60]; go_simp) rfl ?_)
  exact ⟨rfl, HX.out⟩
theorem crarena_no (v : Value) (V : World) (h : CrN V v) : Calls Try.prog 61 #[v] V fun e w' => e = .returned (.pointer none) ∧ Ext V w' := by
  (have HN := Lib.hid h; have HX0 := Lib.hid (Ext.refl V); clear h)
  go_enter Try.func61, Try.ntmps61
  (go_wp2_with fail; refine (crdead_yes v _ HN.out).mono ?_; rintro e w1 ⟨rfl, hx⟩; have HX := Lib.hid (HX0.out.trans hx); clear hx; go_wp2_with fail)
  go_ret
  exact ⟨rfl, HX.out⟩
theorem crtop_no (v : Value) (V : World) (h : CrN V v) : Calls Try.prog 42 #[v] V fun e w' => e = .returned (.int .i64 0) ∧ Ext V w' := by
  (have HN := Lib.hid h; have HX0 := Lib.hid (Ext.refl V); clear h)
  go_enter Try.func42, Try.ntmps42
  (go_wp2_with fail; refine (crdead_yes v _ HN.out).mono ?_; rintro e w1 ⟨rfl, hx⟩; have HX := Lib.hid (HX0.out.trans hx); clear hx; go_wp2_with fail)
  go_ret
  exact ⟨rfl, HX.out⟩
theorem crto_no (v : Value) (V : World) (h : CrN V v) : Calls Try.prog 62 #[v] V fun e w' => e = .returned (.agg #[.int .i64 (0), .int .i64 (0)]) ∧ Ext V w' := by
  have hx0 := (Ext.refl V).alloc (.cells #[.int .i64 0, .int .i64 0] 23)
  have hR := pers_new V #[.int .i64 0, .int .i64 0] 23 _ rfl
  have HN := Lib.hid (h.ext hx0)
  have HX0 := Lib.hid hx0
  have HV := Lib.hid (Nat.le_refl V.heap.size)
  clear h hx0
  go_enter Try.func62, Try.ntmps62
  go_wp2_with fail
  refine (crdead_yes v _ HN.out).mono ?_
  rintro e w1 ⟨rfl, hx⟩
  have HX := Lib.hid (HX0.out.trans hx)
  have hb := hR.at hx
  have k1 := (cells_of hb).1
  have f1 := (cells_of hb).2
  have q := lt_of_heap hb
  clear hx hR
  go_wp2_with fail
  ((try simp only [Exit.inBlock, Exit.then]); refine bodyPost_ret (v := .agg #[.int .i64 (0), .int .i64 (0)]) (by simp only [results, Try.results62]; go_simp) rfl ?_)
  exact ⟨rfl, (HX.out.setCell (p := ⟨V.heap.size, 0, none⟩) HV.out _).setCell (p := ⟨V.heap.size, 1, none⟩) HV.out _⟩
theorem crwork_no (v : Value) (V : World) (h : CrN V v) : Calls Try.prog 43 #[v] V fun e w' => e = .returned (.agg #[.int .i64 0, .int .i64 0, .int .i64 0, .int .i64 0, .int .i64 0]) ∧ Ext V w' := by
  have hx0 := (Ext.refl V).alloc (.cells #[.int .i64 0, .int .i64 0, .int .i64 0, .int .i64 0, .int .i64 0] 83)
  have hR := pers_new V #[.int .i64 0, .int .i64 0, .int .i64 0, .int .i64 0, .int .i64 0] 83 _ rfl
  have HN := Lib.hid (h.ext hx0)
  have HX0 := Lib.hid hx0
  have HV := Lib.hid (Nat.le_refl V.heap.size)
  clear h hx0
  go_enter Try.func43, Try.ntmps43
  go_wp2_with fail
  refine (crdead_yes v _ HN.out).mono ?_
  rintro e w1 ⟨rfl, hx⟩
  have HX := Lib.hid (HX0.out.trans hx)
  have hb := hR.at hx
  have k1 := (cells_of hb).1
  have f1 := (cells_of hb).2
  have q := lt_of_heap hb
  clear hx hR
  go_wp2_with fail
  ((try simp only [Exit.inBlock, Exit.then]); refine bodyPost_ret (v := .agg #[.int .i64 0, .int .i64 0, .int .i64 0, .int .i64 0, .int .i64 0]) (by simp only [results, Try.results43]; go_simp) rfl ?_)
  exact ⟨rfl, ext5x HX.out HV.out _ _ _ _ _⟩
theorem crstep_no (v : Value) (V : World) (h : CrN V v) : Calls Try.prog 55 #[v] V fun e w' => e = .returned (.tuple #[]) ∧ Ext V w' := by
  (have HN := Lib.hid h; have HX0 := Lib.hid (Ext.refl V); clear h)
  go_enter Try.func55, Try.ntmps55
  (go_wp2_with fail; refine (crdead_yes v _ HN.out).mono ?_; rintro e w1 ⟨rfl, hx⟩; have HX := Lib.hid (HX0.out.trans hx); clear hx; go_wp2_with fail)
  go_returns
  exact ⟨rfl, HX.out⟩
theorem crseen_no (v : Value) (V : World) (h : CrN V v) : Calls Try.prog 56 #[v] V fun e w' => e = .returned (.tuple #[]) ∧ Ext V w' := by
  (have HN := Lib.hid h; have HX0 := Lib.hid (Ext.refl V); clear h)
  go_enter Try.func56, Try.ntmps56
  (go_wp2_with fail; refine (crdead_yes v _ HN.out).mono ?_; rintro e w1 ⟨rfl, hx⟩; have HX := Lib.hid (HX0.out.trans hx); clear hx; go_wp2_with fail)
  go_returns
  exact ⟨rfl, HX.out⟩
end Go.Proofs.Ytkcpfimhbogdcaa

/- Headers in a row of words: what a header's exchange leaves of all headers. Plain. -/
set_option linter.unusedSimpArgs false
set_option linter.unusedVariables false
namespace Go.Proofs.Ytkcpfimhbogdcaa
open Go.RowKit

theorem word_dec {h : Hd} (hm : hmayB h = true) : decH (hwordN h) = h ∧ hwordN h % 4 = 3 := by
  have h1 := hm
  simp only [hmayB, decide_eq_true_eq] at h1
  obtain ⟨k, f, r, m, c⟩ := h
  simp only at h1
  obtain ⟨k, rfl⟩ := Int.eq_ofNat_of_zero_le h1.1
  obtain ⟨f, rfl⟩ := Int.eq_ofNat_of_zero_le h1.2.2.1
  obtain ⟨r, rfl⟩ := Int.eq_ofNat_of_zero_le h1.2.2.2.2.1
  obtain ⟨c, rfl⟩ := Int.eq_ofNat_of_zero_le h1.2.2.2.2.2.2.1
  have hk : k ≤ 31 := by omega
  have hf : f ≤ 4096 := by omega
  have hr : r ≤ 4096 := by omega
  have hc : c ≤ 1048576 := by omega
  clear h1 hm
  simp only [decH, hwordN, Int.toNat_natCast]
  have H : ∀ b : Nat, b ≤ 1 → (3 + 4 * b + 8 * k + 256 * f + 16777216 * r + 1099511627776 * c) / 8 % 32 = k ∧ (3 + 4 * b + 8 * k + 256 * f + 16777216 * r + 1099511627776 * c) / 256 % 65536 = f ∧ (3 + 4 * b + 8 * k + 256 * f + 16777216 * r + 1099511627776 * c) / 16777216 % 65536 = r ∧
      (3 + 4 * b + 8 * k + 256 * f + 16777216 * r + 1099511627776 * c) / 4 % 2 = b ∧ (3 + 4 * b + 8 * k + 256 * f + 16777216 * r + 1099511627776 * c) / 1099511627776 % 16777216 = c ∧ (3 + 4 * b + 8 * k + 256 * f + 16777216 * r + 1099511627776 * c) % 4 = 3 := fun b hb => by omega
  obtain ⟨e1, e2, e3, e4, e5, e6⟩ := H (if m = true then 1 else 0) (by split <;> omega)
  simp only [e1, e2, e3, e4, e5, e6, Int.toNat_natCast, and_true]
  cases m <;> rfl
/-- A header stands at a place. -/
def HdAt (ws : List Int) (z : Int) (h : Hd) : Prop := headE (some ws) z = 0 ∧ headH (some ws) z = h
theorem hdAt_iff {ws : List Int} {z : Int} {h : Hd} (hbd : ∀ y ∈ ws, 0 ≤ y ∧ y < 18446744073709551616) :
    HdAt ws z h ↔ 0 ≤ z ∧ z < ws.length ∧ ws.getD z.toNat 0 = hwordN h ∧ hmayB h = true ∧ hsize h ≤ ws.length - z := by
  constructor
  · rintro ⟨h1, h2⟩
    have ha := headE_at h1
    obtain ⟨_, e, z0, z1⟩ := atA_zero ha
    injection e with e
    subst e
    have hr : rdA (some ws) z = ws.getD z.toNat 0 := by rw [rdA, if_pos ha]; rfl
    have hlt : z.toNat < ws.length := by omega
    have hb := hbd _ (getD_mem (d := 0) hlt)
    rw [headH, if_pos h1, hr] at h2
    rw [headE, if_pos ha, hr] at h1
    by_cases hd : hdecB (ws.getD z.toNat 0).toNat = true
    · rw [if_pos hd] at h1
      simp only [hdecB, Bool.and_eq_true, decide_eq_true_eq] at hd
      have hn : (ws.getD z.toNat 0).toNat < 18446744073709551616 := by omega
      have := (dec_eq _ hn).2 hd.1
      rw [h2] at this hd h1
      refine ⟨z0, z1, by omega, hd.2, ?_⟩
      by_cases hs : lenA (some ws) - z < hsize h
      · rw [if_pos hs] at h1; cases h1
      · simp only [lenA, Option.getD_some] at hs; omega
    · rw [if_neg hd] at h1; cases h1
  · rintro ⟨z0, z1, hw, hm, hs⟩
    have ha : atA (some ws) z = 0 := by simp only [atA]; rw [if_neg (by omega)]
    have hr : rdA (some ws) z = hwordN h := by rw [rdA, if_pos ha]; exact hw
    obtain ⟨d1, d2⟩ := word_dec hm
    have h1 : headE (some ws) z = 0 := by
      rw [headE, if_pos ha, hr, Int.toNat_natCast, if_pos (by simp [hdecB, d2, d1, hm]), d1, if_neg (by simp only [lenA, Option.getD_some]; omega)]
    exact ⟨h1, by rw [headH, if_pos h1, hr, Int.toNat_natCast, d1]⟩
/-- What a header's exchange leaves: the new one there, all others as they were. -/
theorem oset_at {ws : List Int} {z : Int} {h h' : Hd} (hbd : ∀ y ∈ ws, 0 ≤ y ∧ y < 18446744073709551616) (hz : HdAt ws z h) (hm : hmayB h' = true) (hs : hsize h' = hsize h) :
    osetE ws z h' = 0 ∧ osetL ws z h' = ws.set z.toNat (hwordN h') ∧ HdAt (osetL ws z h') z h' ∧ (∀ y ∈ osetL ws z h', 0 ≤ y ∧ y < 18446744073709551616) ∧ ∀ y g, y ≠ z → HdAt ws y g → HdAt (osetL ws z h') y g := by
  have e1 : osetE ws z h' = 0 := by rw [osetE, if_pos hz.1, hz.2, if_pos ⟨hm, hs.symm⟩]
  have e2 : osetL ws z h' = ws.set z.toNat (hwordN h') := by rw [osetL, if_pos e1]
  have hb2 : ∀ y ∈ ws.set z.toNat (hwordN h' : Int), 0 ≤ y ∧ y < 18446744073709551616 := fun y hy => by
    rcases List.mem_or_eq_of_mem_set hy with hy | rfl
    · exact hbd y hy
    · have := hword_lt h' hm; omega
  obtain ⟨z0, z1, z2, z3, z4⟩ := (hdAt_iff hbd).1 hz
  rw [e2]
  refine ⟨e1, rfl, (hdAt_iff hb2).2 ⟨z0, by rw [List.length_set]; exact z1, ?_, hm, by rw [List.length_set, hs]; exact z4⟩, hb2, fun y g hy hg => ?_⟩
  · have hlt : z.toNat < ws.length := by omega
    simp [List.getD_eq_getElem?_getD, hlt]
  · obtain ⟨y0, y1, y2, y3, y4⟩ := (hdAt_iff hbd).1 hg
    refine (hdAt_iff hb2).2 ⟨y0, by rw [List.length_set]; exact y1, ?_, y3, by rw [List.length_set]; exact y4⟩
    rw [← y2, List.getD_eq_getElem?_getD, List.getElem?_set_ne (by omega), ← List.getD_eq_getElem?_getD]
theorem hsize_cm (h : Hd) (m : Bool) (c : Int) (hm : hmayB h = true) (hc : 0 ≤ c ∧ c ≤ 1048576) : hmayB ⟨h.k, h.f, h.r, m, c⟩ = true ∧ hsize ⟨h.k, h.f, h.r, m, c⟩ = hsize h := by
  have h1 := hm
  simp only [hmayB, decide_eq_true_eq] at h1
  have h2 : hmayB ⟨h.k, h.f, h.r, m, c⟩ = true := by simp only [hmayB, decide_eq_true_eq]; omega
  exact ⟨h2, by rw [hsize, hsize, if_pos h2, if_pos hm]⟩
end Go.Proofs.Ytkcpfimhbogdcaa

