/- Merged by program (merge.py) out of: StI, StJ, StK, StL, CkA. -/
import Derived.Test.YtkcpfimhbogdcaaGreatMz26
import Derived.Test.YtkcpfimhbogdcaaGreatMz4
import Derived.Test.YtkcpfimhbogdcaaGreatMz28
import Derived.Test.YtkcpfimhbogdcaaGreatMz18
import Derived.Test.YtkcpfimhbogdcaaGreatMz2
import Derived.Test.YtkcpfimhbogdcaaGreatMz16
/- The rule on large objects: state.larges. -/
set_option linter.unusedSimpArgs false
set_option linter.unusedVariables false
namespace Go.Proofs.YtkcpfimhbogdcaaGreat
open Go.RowKit Go.Shelf

/-- Is the object of a span of the table there, of just that size, at rest, and not small? -/
def largeO (l : Option (List Int)) (c0 c1 c2 c3 : Int) (x : Int × Int) : Bool := decide (headE l x.1 = 0) && (hsize (headH l x.1) == x.2) && quietB (headH l x.1) && !smallB c0 c1 c2 c3 x.2
theorem ledright_is (a s : Int) (A A2 : Option Addr) (cap cap2 : Nat) (xs fs : List (Int × Int)) (b : Bool) (h : ledR a s xs fs = b) (w : World) (hlen : xs.length ≤ 400000) (hlen2 : fs.length ≤ 9223372036854775807) (hl : SpansAt w A xs) (hl2 : SpansAt w A2 fs) :
    Calls Tryz.prog 81 #[.agg #[.int .i64 (a), .int .i64 (s)], .slice A xs.length cap, .slice A2 fs.length cap2] w fun e w' => e = .returned (.bool b) ∧ Ext w w' := by
  rw [← h]; exact ledright_any a s A A2 cap cap2 xs fs w hlen hlen2 hl hl2
section
variable {c0 c1 c2 c3 : Int} {sn : Bool} {wA : Option Addr} {ws : List Int} {wc : Nat} {top : Int} {tA : Option Addr} {tb : List (Int × Int)} {tc : Nat} {fA : Option Addr} {fr : List (Int × Int)} {fc : Nat} {sA : Option Addr} {sl : List (Bool × Int × Int)} {sc : Nat}
variable {V W : World} {L c mb n : Nat} {A1 : Option Addr} {cap1 : Nat} {wv : List Int} {A2 : Option Addr} {cap2 : Nat} {zs : List Int} {S : Int → Bool}
/-- What comes back. -/
def RetLgs (V W : World) (L : Nat) (cs : Array Value) (c mb n : Nat) (A1 : Option Addr) (cap1 : Nat) (wv : List Int) (A2 : Option Addr) (cap2 : Nat) (zs : List Int) (S : Int → Bool) (r : Bool) (e : Ending) (w' : World) : Prop :=
  e = .returned (.bool r) ∧ ∃ n' S', LkW V w' L cs c mb n' A1 cap1 wv A2 cap2 zs S' ∧ n' ≤ n ∧ (r = true → S' = S) ∧ Kc L W w'
set_option maxRecDepth 100000
set_option maxHeartbeats 8000000
theorem stlarges_any (hLk : LkW V W L #[.int .i64 c0, .int .i64 c1, .int .i64 c2, .int .i64 c3, .bool sn, .slice wA ws.length wc, .int .i64 top, .slice tA tb.length tc, .slice fA fr.length fc, .slice sA sl.length sc] c mb n A1 cap1 wv A2 cap2 zs S) (hmb : V.heap.size ≤ mb) (hn : n ≤ 2199023255553) (HT : Pers V (fun w => SpansAt w tA tb)) (HF : Pers V (fun w => SpansAt w fA fr)) (htl : tb.length ≤ 98304) (hfl : fr.length ≤ 98304)
    (htb : ∀ x ∈ tb, (-9223372036854775808 ≤ x.1 ∧ x.1 ≤ 9223372036854775807)) :
    Calls Tryz.prog 64 #[.pointer (some ⟨L, 0, none⟩)] W (RetLgs V W L #[.int .i64 c0, .int .i64 c1, .int .i64 c2, .int .i64 c3, .bool sn, .slice wA ws.length wc, .int .i64 top, .slice tA tb.length tc, .slice fA fr.length fc, .slice sA sl.length sc] c mb (n + tb.length) A1 cap1 wv A2 cap2 zs (fun x => S x || decide (x ∈ tb.map (·.1))) (ledR (largeA c0 c1 c2 c3) (largeS c0 c1 c2 c3) tb fr && tb.all (largeO (some wv) c0 c1 c2 c3))) := by
  obtain ⟨a, ha⟩ : ∃ b, largeA c0 c1 c2 c3 = b := ⟨_, rfl⟩
  obtain ⟨s, hs⟩ : ∃ b, largeS c0 c1 c2 c3 = b := ⟨_, rfl⟩
  obtain ⟨b, hb⟩ : ∃ b, ledR a s tb fr = b := ⟨_, rfl⟩
  have HA := Lib.hid ha
  have HS := Lib.hid hs
  have HLB := Lib.hid hb
  rw [ha, hs, hb]
  have HLK := hLk.pers
  have HTB := Lib.hid htb
  have HTW := HT.re hLk.ext
  have HFW := HF.re hLk.ext
  have hB : Pers W (fun w => w.heap[L]? = some (.cells #[.int .i64 c0, .int .i64 c1, .int .i64 c2, .int .i64 c3, .bool sn, .slice wA ws.length wc, .int .i64 top, .slice tA tb.length tc, .slice fA fr.length fc, .slice sA sl.length sc, .pointer (some ⟨c, 0, none⟩), .slice A2 zs.length cap2, .map (some mb)] 59 (0, 0))) := fun w k => (hLk.grow k).blk
  have g := hB.cells
  clear ha hs hb hLk htb
  refine at_baseC (W := W) fun uq => ?_
  go_enter Tryz.func64, Tryz.ntmps64
  go_wp2_with fail
  have hu := uq.2
  (refine wp_region_ext (W := W) (by kernel_rfl) (by kernel_rfl) (by with_reducible assumption) ?_; (repeat (go_big_quiet_step (first | (go_at_call 39; with_reducible exact Calls.ext_of (llarge_is HA.out HS.out _)) | (go_at_call 81; with_reducible exact Calls.ext_of (ledright_is a s tA fA tc fc tb fr b HLB.out _ (by omega) (by omega) (HTW.at (by repeat (first | (with_reducible exact Ext.refl _) | (with_reducible exact ExtOf.ext _) | (with_reducible assumption) | (with_reducible refine Ext.drew ?_) | (with_reducible refine Ext.alloc ?_ _)))) (HFW.at (by repeat (first | (with_reducible exact Ext.refl _) | (with_reducible exact ExtOf.ext _) | (with_reducible assumption) | (with_reducible refine Ext.drew ?_) | (with_reducible refine Ext.alloc ?_ _))))))))); refine wpQuiet_nil ?_; intro w1 hx)
  clear hu
  cases b
  · (obtain ⟨uq, rfl⟩ : ∃ u : ExtOf W, w1 = u.1 := ⟨⟨w1, hx⟩, rfl⟩; clear hx; go_wp2_with fail)
    go_ret
    exact ⟨rfl, n, S, HLK.at uq.2, by omega, by simp, Kc.ext L uq.2⟩
  (obtain ⟨uq, rfl⟩ : ∃ u : ExtOf W, w1 = u.1 := ⟨⟨w1, hx⟩, rfl⟩; clear hx; go_wp2_with fail)
  have HL0 := Lib.hid (HLK.at uq.2)
  have HK0 := Lib.hid (Kc.ext L uq.2)
  clear g hB HLK HTW HFW
  simp only [Bool.not_true]
  go_loopw [4, 5, 6, 31] (fun _ _ _ i wr => ∃ k : Nat, k ≤ tb.length ∧ i = .int .i64 k ∧ Hid (LkW V wr L #[.int .i64 c0, .int .i64 c1, .int .i64 c2, .int .i64 c3, .bool sn, .slice wA ws.length wc, .int .i64 top, .slice tA tb.length tc, .slice fA fr.length fc, .slice sA sl.length sc] c mb (n + k) A1 cap1 wv A2 cap2 zs (fun x => S x || decide (x ∈ (tb.take k).map (·.1)))) ∧ Hid (Kc L W wr) ∧ Hid (∀ i, i < k → largeO (some wv) c0 c1 c2 c3 (tb.getD i (0, 0)) = true)) (fun _ _ _ i _ => tb.length - (intOf i).toNat)
  case atStart => exact ⟨0, by omega, rfl, Lib.hid (by simpa using HL0.out), HK0, Lib.hid (by omega)⟩
  case round =>
    obtain ⟨k, hk, rfl, HL, HKR, hq⟩ := hrel
    clear HL0 HK0
    by_cases hlt : k < tb.length
    rotate_left
    · obtain rfl : k = tb.length := by omega
      have HAL : Hid (tb.all (largeO (some wv) c0 c1 c2 c3) = true) := Lib.hid (all_ofD fun i hi => hq.out i hi)
      clear hq
      go_wp2_with fail
      go_ret
      exact ⟨ret_bool (by rw [HAL.out]; rfl), _, _, HL.out, Nat.le_refl _, (fun _ => by simp only [List.take_length]), HKR.out⟩
    have HLK := HL.out.pers
    have hB : Pers wr (fun w => w.heap[L]? = some (.cells #[.int .i64 c0, .int .i64 c1, .int .i64 c2, .int .i64 c3, .bool sn, .slice wA ws.length wc, .int .i64 top, .slice tA tb.length tc, .slice fA fr.length fc, .slice sA sl.length sc, .pointer (some ⟨c, 0, none⟩), .slice A2 zs.length cap2, .map (some mb)] 59 (0, 0))) := fun w k => (HL.out.grow k).blk
    have HAR : Pers wr (fun w => ArP w (some ⟨c, 0, none⟩) (some wv)) := fun w k => (HL.out.grow k).ar.p
    obtain ⟨lb, off, rfl, hc⟩ := (HT.at HL.out.ext).get (by omega)
    obtain ⟨j1, j2⟩ := spans_cell hc hlt
    have hxb := HTB.out _ (getD_mem (d := (0, 0)) hlt)
    have ib1 : (k : Int) < (tb.length : Int) := by omega
    have HY := Lib.hid (fun (h : largeO (some wv) c0 c1 c2 c3 (tb.getD k (0, 0)) = true) => upTo hq.out h)
    have HNO := Lib.hid (fun (h : largeO (some wv) c0 c1 c2 c3 (tb.getD k (0, 0)) = false) => all_notD (p := largeO (some wv) c0 c1 c2 c3) hlt h)
    have HTK : Hid ((fun x => (S x || decide (x ∈ (tb.take k).map (·.1))) || x == (tb.getD k (0, 0)).1) = fun x => S x || decide (x ∈ (tb.take (k + 1)).map (·.1))) := Lib.hid (by
      funext x
      rw [map_snoc (d := (0, 0)) hlt, Bool.or_assoc]
      congr 1
      simp only [List.mem_append, List.mem_singleton, Bool.decide_or]
      congr 1)
    clear hc hq
    generalize tb.getD k (0, 0) = x at *
    obtain ⟨xa, xs⟩ := x
    simp only at j1 j2 hxb HTK
    obtain ⟨er, her⟩ : ∃ e, headE (some wv) xa = e := ⟨_, rfl⟩
    obtain ⟨h, hh⟩ : ∃ h, headH (some wv) xa = h := ⟨_, rfl⟩
    obtain ⟨z, hz⟩ : ∃ n, hsize h = n := ⟨_, rfl⟩
    obtain ⟨b, hb⟩ : ∃ b, quietB h = b := ⟨_, rfl⟩
    obtain ⟨d, hd⟩ : ∃ b, smallB c0 c1 c2 c3 xs = b := ⟨_, rfl⟩
    have HLG : Hid (largeO (some wv) c0 c1 c2 c3 (xa, xs) = (decide (er = 0) && (z == xs) && b && !d)) := Lib.hid (by simp only [largeO, her, hh, hz, hb, hd])
    have HER := Lib.hid her
    have HH := Lib.hid hh
    have HZ := Lib.hid hz
    have HB := Lib.hid hb
    have HD := Lib.hid hd
    clear her hh hz hb hd
    have hS := pers_new wr #[.int .i64 xa, .int .i64 xs] 50 _ rfl
    have hxs := (Ext.refl wr).alloc (.cells #[.int .i64 xa, .int .i64 xs] 50)
    go_wp2_with fail
    (replace HLK := HLK.re hxs; replace hB := hB.re hxs; replace HAR := HAR.re hxs)
    have HK1 := Lib.hid (Kc.ext L hxs)
    generalize wr.alloc (.cells #[.int .i64 xa, .int .i64 xs] 50) = W1 at *
    generalize wr.heap.size = X at *
    have g := hB.cells
    have g1 := hS.cells
    have hx1 := Ext.refl W1
    clear j1 j2 ib1 hxs HL
    (refine wp_region_pfk (W := W1) [(0, true), (1, true), (2, true), (3, true), (4, true), (5, true)] 5 [(6, [.qu 7 true, .qu 8 true, .qu 9 true, .one 10, .one 11]), (10, [.one 6, .qu 7 true, .qu 8 true, .qu 9 true, .one 11])] [12] (by kernel_rfl) (by kernel_rfl) (by intro c a d v w h; cases d <;> first | exact h | cases h.1) (by with_reducible assumption) ?_; simp only [opsOf, List.map_cons, List.map_nil, List.getD_cons_zero, List.getD_cons_succ]; (repeat (go_big_quiet_step (fail))); refine wpQuiet_nil ?_; refine all_two ?_ ?_ <;> (intro w1 hx; unfold RowP; simp only [opsOf, List.map_cons, List.map_nil, List.getD_cons_zero, List.getD_cons_succ]))
    · (refine pln_one (by (try simp only [List.getD_cons_succ, List.getD_cons_zero]); rfl) (by rfl) ?_; intro K hK; go_simp)
      refine (ohead_is (some ⟨c, 0, none⟩) (some wv) xa h er HH.out HER.out _ (HAR.at hx) hxb).mono ?_
      rintro e w2 ⟨rfl, hx2⟩
      refine hK (Ext W1) _ _ (fun _ h => h) (hx.trans hx2) ?_
      clear hK K hx hx2
      (refine pln_qu (by (try simp only [List.getD_cons_succ, List.getD_cons_zero]); rfl) ?_; (repeat (go_big_quiet_step (fail))); refine wpQuiet_nil ?_; intro w1 hx)
      (refine pln_qu (by (try simp only [List.getD_cons_succ, List.getD_cons_zero]); rfl) ?_; (repeat (go_big_quiet_step (fail))); refine wpQuiet_nil ?_; intro w1 hx)
      (refine pln_qu (by (try simp only [List.getD_cons_succ, List.getD_cons_zero]); rfl) ?_; (repeat (go_big_quiet_step (fail))); refine wpQuiet_nil ?_; intro w1 hx)
      (refine pln_one (by (try simp only [List.getD_cons_succ, List.getD_cons_zero]); rfl) (by rfl) ?_; intro K hK; go_simp)
      refine hK (Ext W1) _ _ (fun _ h => h) (hx.alloc _) ?_
      clear hK K
      (refine pln_one (by (try simp only [List.getD_cons_succ, List.getD_cons_zero]); rfl) (by rfl) ?_; intro K hK; go_simp)
      refine hK (Ext W1) _ _ (fun _ h => h) (hx.alloc _) ?_
      clear hK K
      (refine pln_nil ?_)
      go_wp2_with fail
      have HBH := pers_new w1 #[.int .i64 h.k, .int .i64 h.f, .int .i64 h.r, .bool h.m, .int .i64 h.c] 36 _ rfl
      have HX5 := Lib.hid (hx.alloc (.cells #[.int .i64 h.k, .int .i64 h.f, .int .i64 h.r, .bool h.m, .int .i64 h.c] 36))
      clear hx
      generalize w1.alloc (.cells #[.int .i64 h.k, .int .i64 h.f, .int .i64 h.r, .bool h.m, .int .i64 h.c] 36) = W5 at *
      generalize w1.heap.size = Y at *
      clear g g1 hx1
      have HK7 := Lib.hid (HKR.out.trans (HK1.out.trans (Kc.ext L HX5.out)))
      replace HLK := HLK.re HX5.out
      replace hB := hB.re HX5.out
      replace hS := hS.re HX5.out
      have g := hB.cells
      have g1 := hS.cells
      have g2 := HBH.cells
      have hx5 := Ext.refl W5
      by_cases h0 : er = 0
      rotate_left
      · have q0 : (er != 0) = true := by rw [bne_iff_ne]; exact h0
        have HR := Lib.hid (HNO.out (by rw [HLG.out, decide_eq_false h0]; rfl))
        clear h0
        (refine wp_region_ext (W := W5) (by kernel_rfl) (by kernel_rfl) (by with_reducible assumption) ?_; (repeat (go_big_quiet_step (fail))); refine wpQuiet_nil ?_; intro w1 hx)
        (obtain ⟨uq, rfl⟩ : ∃ u : ExtOf W5, w1 = u.1 := ⟨⟨w1, hx⟩, rfl⟩; clear hx; go_wp2_with fail)
        go_ret
        exact ⟨ret_bool (by simp [HR.out]), _, _, HLK.at uq.2, by omega, by rw [HR.out]; simp, HK7.out.trans (Kc.ext L uq.2)⟩
      subst h0
      by_cases h1 : z = xs
      rotate_left
      · have q1 : (z != xs) = true := by rw [bne_iff_ne]; exact h1
        have q2 : (z == xs) = false := by rw [beq_eq_false_iff_ne]; exact h1
        have HR := Lib.hid (HNO.out (by rw [HLG.out, q2]; rfl))
        clear h1 q2
        (refine wp_region_ext (W := W5) (by kernel_rfl) (by kernel_rfl) (by with_reducible assumption) ?_; (repeat (go_big_quiet_step (first | (go_at_call 22; with_reducible exact Calls.ext_of (hsize_is h z HZ.out _))))); refine wpQuiet_nil ?_; intro w1 hx)
        (obtain ⟨uq, rfl⟩ : ∃ u : ExtOf W5, w1 = u.1 := ⟨⟨w1, hx⟩, rfl⟩; clear hx; go_wp2_with fail)
        go_ret
        exact ⟨ret_bool (by simp [HR.out]), _, _, HLK.at uq.2, by omega, by rw [HR.out]; simp, HK7.out.trans (Kc.ext L uq.2)⟩
      subst h1
      have q1 : (z != z) = false := by simp
      cases b
      · have HR := Lib.hid (HNO.out (by rw [HLG.out]; simp))
        (refine wp_region_ext (W := W5) (by kernel_rfl) (by kernel_rfl) (by with_reducible assumption) ?_; (repeat (go_big_quiet_step (first | (go_at_call 22; with_reducible exact Calls.ext_of (hsize_is h z HZ.out _)) | (go_at_call 79; with_reducible exact Calls.ext_of (quiet_is h false HB.out _))))); refine wpQuiet_nil ?_; intro w1 hx)
        (obtain ⟨uq, rfl⟩ : ∃ u : ExtOf W5, w1 = u.1 := ⟨⟨w1, hx⟩, rfl⟩; clear hx; go_wp2_with fail)
        go_ret
        exact ⟨ret_bool (by simp [HR.out]), _, _, HLK.at uq.2, by omega, by rw [HR.out]; simp, HK7.out.trans (Kc.ext L uq.2)⟩
      cases d
      rotate_left
      · have HR := Lib.hid (HNO.out (by rw [HLG.out]; simp))
        (refine wp_region_ext (W := W5) (by kernel_rfl) (by kernel_rfl) (by with_reducible assumption) ?_; (repeat (go_big_quiet_step (first | (go_at_call 22; with_reducible exact Calls.ext_of (hsize_is h z HZ.out _)) | (go_at_call 79; with_reducible exact Calls.ext_of (quiet_is h true HB.out _)) | (go_at_call 80; with_reducible exact Calls.ext_of (lsmall_is HD.out _))))); refine wpQuiet_nil ?_; intro w1 hx)
        (obtain ⟨uq, rfl⟩ : ∃ u : ExtOf W5, w1 = u.1 := ⟨⟨w1, hx⟩, rfl⟩; clear hx; go_wp2_with fail)
        go_ret
        exact ⟨ret_bool (by simp [HR.out]), _, _, HLK.at uq.2, by omega, by rw [HR.out]; simp, HK7.out.trans (Kc.ext L uq.2)⟩
      have HYY := Lib.hid (HY.out (by rw [HLG.out]; simp))
      (refine wp_region_ext (W := W5) (by kernel_rfl) (by kernel_rfl) (by with_reducible assumption) ?_; (repeat (go_big_quiet_step (first | (go_at_call 22; with_reducible exact Calls.ext_of (hsize_is h z HZ.out _)) | (go_at_call 79; with_reducible exact Calls.ext_of (quiet_is h true HB.out _)) | (go_at_call 80; with_reducible exact Calls.ext_of (lsmall_is HD.out _))))); refine wpQuiet_nil ?_; intro w1 hx)
      (obtain ⟨uq, rfl⟩ : ∃ u : ExtOf W5, w1 = u.1 := ⟨⟨w1, hx⟩, rfl⟩; clear hx; go_wp2_with fail)
      have hu := uq.2
      (refine wp_region_ord (W := W5) [(0, true), (1, true), (2, true), (3, true), (4, true), (5, true)] [] [6] (by kernel_rfl) (by kernel_rfl) (by intro c a d v w h; cases d <;> first | exact h | cases h.1) (by with_reducible assumption) ?_; simp only [opsOf, List.map_cons, List.map_nil, List.getD_cons_zero, List.getD_cons_succ]; (repeat (go_big_quiet_step (fail))); refine wpQuiet_nil ?_; intro w1 hx; refine mid_nil ?_)
      have HL6 := Lib.hid (HLK.at hx)
      have HX6 := Lib.hid hx
      have hzw : (Lit.int .i64 xa).wf = true := by simp [Lit.wf, IntKind.min, IntKind.max, IntKind.signed, IntKind.bits]; omega
      have HZW := Lib.hid hzw
      clear hzw hx hu g g1 g2
      go_wp2_with (at_mapUpdate; refine wpList_set_put rfl (.tmp 72) (.tmp 74) (.const (.bool true)) rfl HL6.out.st rfl (by simp [maxLen]; omega) xa rfl rfl HZW.out ?_; intro w7 hs7 hg7; have HL7 := Lib.hid (HL6.out.put hmb hg7 hs7); have HK8 := Lib.hid ((HK7.out.trans (Kc.ext L HX6.out)).trans (Kc.map L HL6.out.st hg7)); clear hs7 hg7)
      go_roundw
      case rel => exact ⟨k + 1, by omega, by go_num, by rw [← HTK.out]; exact HL7, HK8, HYY⟩
      case measure => simp [intOf]; omega
    · (refine pln_one (by (try simp only [List.getD_cons_succ, List.getD_cons_zero]); rfl) (by rfl) ?_; intro K hK; go_simp)
      refine hK (fun w => Ext W1 w ∧ ∃ cs, cs.size = 5 ∧ w.heap[w1.heap.size]? = some (.cells cs 36 (0, 0))) _ _ (fun _ h => h.1) ⟨hx.alloc _, _, rfl, World.alloc_heap_new _ _⟩ ?_
      clear hK K
      have hb := blk_new w1 #[.int .i64 0, .int .i64 0, .int .i64 0, .bool false, .int .i64 0] 36 _ rfl
      have hx1' := hx.alloc (.cells #[.int .i64 0, .int .i64 0, .int .i64 0, .bool false, .int .i64 0] 36)
      have hXs : W1.heap.size ≤ w1.heap.size := hx.size
      generalize w1.alloc (.cells #[.int .i64 0, .int .i64 0, .int .i64 0, .bool false, .int .i64 0] 36) = w3 at *
      generalize w1.heap.size = Y at *
      (refine pln_one (by (try simp only [List.getD_cons_succ, List.getD_cons_zero]); rfl) (by rfl) ?_; intro K hK; go_simp)
      refine (ohead_is (some ⟨c, 0, none⟩) (some wv) xa h er HH.out HER.out _ (HAR.at hx1') hxb).mono ?_
      rintro e w2 ⟨rfl, hx2⟩
      refine hK (fun w => Ext W1 w ∧ ∃ cs, cs.size = 5 ∧ w.heap[Y]? = some (.cells cs 36 (0, 0))) _ _ (fun _ h => h) ⟨hx1'.trans hx2, _, rfl, (hx2.block (lt_of_heap hb)).trans hb⟩ ?_
      have hne : Nonempty (KeptT fun w => Ext W1 w ∧ ∃ cs, cs.size = 5 ∧ w.heap[Y]? = some (.cells cs 36 (0, 0))) := ⟨⟨_, hx1'.trans hx2, _, rfl, (hx2.block (lt_of_heap hb)).trans hb⟩⟩
      clear hK K hx hx2
      (refine pln_qu (by (try simp only [List.getD_cons_succ, List.getD_cons_zero]); rfl) ?_; (repeat (go_big_quiet_step (fail))); refine wpQuiet_nil ?_; intro w1 hx)
      (refine pln_qu (by (try simp only [List.getD_cons_succ, List.getD_cons_zero]); rfl) ?_; (repeat (go_big_quiet_step (fail))); refine wpQuiet_nil ?_; intro w1 hx)
      (refine pln_qu (by (try simp only [List.getD_cons_succ, List.getD_cons_zero]); rfl) ?_; (repeat (go_big_quiet_step (fail))); refine wpQuiet_nil ?_; intro w1 hx)
      obtain ⟨hx, cs, hcs, hbY⟩ := hx
      obtain ⟨v0, v1, v2, v3, v4, rfl⟩ := arr5 hcs
      obtain ⟨g3, g4⟩ := cells_of hbY
      have hb5 := blk_set (i := 4) (blk_set (i := 3) (blk_set (i := 2) (blk_set (i := 1) (blk_set (i := 0) hbY (.int .i64 h.k)) (.int .i64 h.f)) (.int .i64 h.r)) (.bool h.m)) (.int .i64 h.c)
      have hx5 := ((((hx.setCell (p := ⟨Y, 0, none⟩) hXs (.int .i64 h.k)).setCell (p := ⟨Y, 1, none⟩) hXs (.int .i64 h.f)).setCell (p := ⟨Y, 2, none⟩) hXs (.int .i64 h.r)).setCell (p := ⟨Y, 3, none⟩) hXs (.bool h.m)).setCell (p := ⟨Y, 4, none⟩) hXs (.int .i64 h.c)
      simp only [List.setIfInBounds_toArray, List.set_cons_succ, List.set_cons_zero] at hb5
      (refine pln_one (by (try simp only [List.getD_cons_succ, List.getD_cons_zero]); rfl) (by rfl) ?_; intro K hK; go_simp)
      refine hK _ _ _ (fun _ h => h) ⟨hx5, _, rfl, hb5⟩ ?_
      have HBH := pers_blk hb5
      have HX5 := Lib.hid hx5
      clear hK K hx hbY g3 g4 hcs hb5 hx5 hne hb hx1'
      (refine pln_nil ?_)
      go_wp2_with fail
      generalize ((((w1.setCell ⟨Y, 0, none⟩ (.int .i64 h.k)).setCell ⟨Y, 1, none⟩ (.int .i64 h.f)).setCell ⟨Y, 2, none⟩ (.int .i64 h.r)).setCell ⟨Y, 3, none⟩ (.bool h.m)).setCell ⟨Y, 4, none⟩ (.int .i64 h.c) = W5 at *
      clear g g1 hx1
      have HK7 := Lib.hid (HKR.out.trans (HK1.out.trans (Kc.ext L HX5.out)))
      replace HLK := HLK.re HX5.out
      replace hB := hB.re HX5.out
      replace hS := hS.re HX5.out
      have g := hB.cells
      have g1 := hS.cells
      have g2 := HBH.cells
      have hx5 := Ext.refl W5
      by_cases h0 : er = 0
      rotate_left
      · have q0 : (er != 0) = true := by rw [bne_iff_ne]; exact h0
        have HR := Lib.hid (HNO.out (by rw [HLG.out, decide_eq_false h0]; rfl))
        clear h0
        (refine wp_region_ext (W := W5) (by kernel_rfl) (by kernel_rfl) (by with_reducible assumption) ?_; (repeat (go_big_quiet_step (fail))); refine wpQuiet_nil ?_; intro w1 hx)
        (obtain ⟨uq, rfl⟩ : ∃ u : ExtOf W5, w1 = u.1 := ⟨⟨w1, hx⟩, rfl⟩; clear hx; go_wp2_with fail)
        go_ret
        exact ⟨ret_bool (by simp [HR.out]), _, _, HLK.at uq.2, by omega, by rw [HR.out]; simp, HK7.out.trans (Kc.ext L uq.2)⟩
      subst h0
      by_cases h1 : z = xs
      rotate_left
      · have q1 : (z != xs) = true := by rw [bne_iff_ne]; exact h1
        have q2 : (z == xs) = false := by rw [beq_eq_false_iff_ne]; exact h1
        have HR := Lib.hid (HNO.out (by rw [HLG.out, q2]; rfl))
        clear h1 q2
        (refine wp_region_ext (W := W5) (by kernel_rfl) (by kernel_rfl) (by with_reducible assumption) ?_; (repeat (go_big_quiet_step (first | (go_at_call 22; with_reducible exact Calls.ext_of (hsize_is h z HZ.out _))))); refine wpQuiet_nil ?_; intro w1 hx)
        (obtain ⟨uq, rfl⟩ : ∃ u : ExtOf W5, w1 = u.1 := ⟨⟨w1, hx⟩, rfl⟩; clear hx; go_wp2_with fail)
        go_ret
        exact ⟨ret_bool (by simp [HR.out]), _, _, HLK.at uq.2, by omega, by rw [HR.out]; simp, HK7.out.trans (Kc.ext L uq.2)⟩
      subst h1
      have q1 : (z != z) = false := by simp
      cases b
      · have HR := Lib.hid (HNO.out (by rw [HLG.out]; simp))
        (refine wp_region_ext (W := W5) (by kernel_rfl) (by kernel_rfl) (by with_reducible assumption) ?_; (repeat (go_big_quiet_step (first | (go_at_call 22; with_reducible exact Calls.ext_of (hsize_is h z HZ.out _)) | (go_at_call 79; with_reducible exact Calls.ext_of (quiet_is h false HB.out _))))); refine wpQuiet_nil ?_; intro w1 hx)
        (obtain ⟨uq, rfl⟩ : ∃ u : ExtOf W5, w1 = u.1 := ⟨⟨w1, hx⟩, rfl⟩; clear hx; go_wp2_with fail)
        go_ret
        exact ⟨ret_bool (by simp [HR.out]), _, _, HLK.at uq.2, by omega, by rw [HR.out]; simp, HK7.out.trans (Kc.ext L uq.2)⟩
      cases d
      rotate_left
      · have HR := Lib.hid (HNO.out (by rw [HLG.out]; simp))
        (refine wp_region_ext (W := W5) (by kernel_rfl) (by kernel_rfl) (by with_reducible assumption) ?_; (repeat (go_big_quiet_step (first | (go_at_call 22; with_reducible exact Calls.ext_of (hsize_is h z HZ.out _)) | (go_at_call 79; with_reducible exact Calls.ext_of (quiet_is h true HB.out _)) | (go_at_call 80; with_reducible exact Calls.ext_of (lsmall_is HD.out _))))); refine wpQuiet_nil ?_; intro w1 hx)
        (obtain ⟨uq, rfl⟩ : ∃ u : ExtOf W5, w1 = u.1 := ⟨⟨w1, hx⟩, rfl⟩; clear hx; go_wp2_with fail)
        go_ret
        exact ⟨ret_bool (by simp [HR.out]), _, _, HLK.at uq.2, by omega, by rw [HR.out]; simp, HK7.out.trans (Kc.ext L uq.2)⟩
      have HYY := Lib.hid (HY.out (by rw [HLG.out]; simp))
      (refine wp_region_ext (W := W5) (by kernel_rfl) (by kernel_rfl) (by with_reducible assumption) ?_; (repeat (go_big_quiet_step (first | (go_at_call 22; with_reducible exact Calls.ext_of (hsize_is h z HZ.out _)) | (go_at_call 79; with_reducible exact Calls.ext_of (quiet_is h true HB.out _)) | (go_at_call 80; with_reducible exact Calls.ext_of (lsmall_is HD.out _))))); refine wpQuiet_nil ?_; intro w1 hx)
      (obtain ⟨uq, rfl⟩ : ∃ u : ExtOf W5, w1 = u.1 := ⟨⟨w1, hx⟩, rfl⟩; clear hx; go_wp2_with fail)
      have hu := uq.2
      (refine wp_region_ord (W := W5) [(0, true), (1, true), (2, true), (3, true), (4, true), (5, true)] [] [6] (by kernel_rfl) (by kernel_rfl) (by intro c a d v w h; cases d <;> first | exact h | cases h.1) (by with_reducible assumption) ?_; simp only [opsOf, List.map_cons, List.map_nil, List.getD_cons_zero, List.getD_cons_succ]; (repeat (go_big_quiet_step (fail))); refine wpQuiet_nil ?_; intro w1 hx; refine mid_nil ?_)
      have HL6 := Lib.hid (HLK.at hx)
      have HX6 := Lib.hid hx
      have hzw : (Lit.int .i64 xa).wf = true := by simp [Lit.wf, IntKind.min, IntKind.max, IntKind.signed, IntKind.bits]; omega
      have HZW := Lib.hid hzw
      clear hzw hx hu g g1 g2
      go_wp2_with (at_mapUpdate; refine wpList_set_put rfl (.tmp 72) (.tmp 74) (.const (.bool true)) rfl HL6.out.st rfl (by simp [maxLen]; omega) xa rfl rfl HZW.out ?_; intro w7 hs7 hg7; have HL7 := Lib.hid (HL6.out.put hmb hg7 hs7); have HK8 := Lib.hid ((HK7.out.trans (Kc.ext L HX6.out)).trans (Kc.map L HL6.out.st hg7)); clear hs7 hg7)
      go_roundw
      case rel => exact ⟨k + 1, by omega, by go_num, by rw [← HTK.out]; exact HL7, HK8, HYY⟩
      case measure => simp [intOf]; omega
end
end Go.Proofs.YtkcpfimhbogdcaaGreat

/- The rules on where words lead: look.leads, state.handles, state.fields. -/
set_option linter.unusedSimpArgs false
set_option linter.unusedVariables false
namespace Go.Proofs.YtkcpfimhbogdcaaGreat
open Go.RowKit Go.Shelf

/-- Is a word a value's, and does it lead to one of some places, if it leads somewhere? -/
def leadsB (S : Int → Bool) (z : Int) : Bool := decide (decE z = 0) && (!(decT z == 2) || S (decX z))
section
variable {cs : Array Value} {V W : World} {L c mb n : Nat} {A1 : Option Addr} {cap1 : Nat} {wv : List Int} {A2 : Option Addr} {cap2 : Nat} {zs : List Int} {S : Int → Bool}
set_option maxRecDepth 100000
set_option maxHeartbeats 4000000
theorem leads_any (x : Int) (r : Bool) (hr : leadsB S x = r) (g12 : ∀ u : ExtOf W, u.1.cell? ⟨L, 12, none⟩ = some (.map (some mb))) (HM : Pers W (fun w => SetI w mb n S)) (hx : 0 ≤ x ∧ x < 18446744073709551616) (w0 : World) (hw : Ext W w0) :
    Calls Tryz.prog 84 #[.pointer (some ⟨L, 0, none⟩), .int .u64 x] w0 fun e w' => e = .returned (.bool r) ∧ Ext w0 w' := by
  revert g12 HM
  intro g12' HM'
  have g12 : ∀ u : ExtOf w0, u.1.cell? ⟨L, 12, none⟩ = some (.map (some mb)) := fun u => g12' ⟨u.1, hw.trans u.2⟩
  have HM := HM'.re hw
  clear g12' HM' hw
  generalize w0 = W at *
  obtain ⟨t, ht⟩ : ∃ t, decT x = t := ⟨_, rfl⟩
  obtain ⟨y, hy⟩ : ∃ t, decX x = t := ⟨_, rfl⟩
  obtain ⟨er, her⟩ : ∃ t, decE x = t := ⟨_, rfl⟩
  have hbd := dec_bd hx.1 hx.2
  rw [ht, hy, her] at hbd
  have HR : Hid (leadsB S x = (decide (er = 0) && (!(t == 2) || S y))) := Lib.hid (by rw [leadsB, ht, hy, her])
  rw [← hr]
  have HT := Lib.hid ht
  have HY := Lib.hid hy
  have HE := Lib.hid her
  have hyw : (Lit.int .i64 y).wf = true := by simp [Lit.wf, IntKind.min, IntKind.max, IntKind.signed, IntKind.bits]; omega
  have hlk : ∀ u : ExtOf W, (Instr.lookup 57 (.map (some mb)) (.int .i64 y) false).run Tryz.prog u.1 = .ok (.bool (S y)) u.1 := fun u => (HM.at u.2).look hyw
  have HLKP := Lib.hid hlk
  have HX0 := Lib.hid hx
  clear ht hy her hyw hbd hr hlk hx
  refine at_baseC (W := W) fun uq => ?_
  go_enter Tryz.func84, Tryz.ntmps84
  go_wp2_with fail
  (refine (dec_is x t y er HT.out HY.out HE.out _ HX0.out).mono ?_; rintro e w1 ⟨rfl, hx⟩; replace hx := Ext.trans (a := W) (by repeat (first | (with_reducible exact Ext.refl _) | (with_reducible exact ExtOf.ext _) | (with_reducible assumption) | (with_reducible refine Ext.drew ?_) | (with_reducible refine Ext.alloc ?_ _))) hx)
  have HV := pers_new w1 #[.int .i64 t, .int .i64 y] 99 _ rfl
  replace hx := hx.alloc (.cells #[.int .i64 t, .int .i64 y] 99)
  go_wp2_with fail
  generalize w1.alloc (.cells #[.int .i64 t, .int .i64 y] 99) = W1 at *
  generalize w1.heap.size = X at *
  have g1 := HV.cells
  have g2 : ∀ u : ExtOf W1, u.1.cell? ⟨L, 12, none⟩ = some (.map (some mb)) := fun u => g12 ⟨u.1, hx.trans u.2⟩
  have HX := Lib.hid hx
  have hx1 := Ext.refl W1
  clear hx g12
  by_cases h0 : er = 0
  rotate_left
  · have q0 : (er == 0) = false := by rw [beq_eq_false_iff_ne]; exact h0
    have HRR : Hid (leadsB S x = false) := Lib.hid (by rw [HR.out, decide_eq_false h0]; rfl)
    clear h0
    (refine wp_region_ext (W := W1) (by kernel_rfl) (by kernel_rfl) (by with_reducible assumption) ?_; (repeat (go_big_quiet_step (fail))); refine wpQuiet_nil ?_; intro w1 hx)
    (obtain ⟨uq, rfl⟩ : ∃ u : ExtOf W1, w1 = u.1 := ⟨⟨w1, hx⟩, rfl⟩; clear hx; go_wp2_with fail)
    go_ret
    exact ⟨ret_bool HRR.out.symm, HX.out.trans (ExtOf.ext _)⟩
  subst h0
  by_cases h2 : t = 2
  rotate_left
  · have q2 : (t != 2) = true := by rw [bne_iff_ne]; exact h2
    have HRR : Hid (leadsB S x = true) := Lib.hid (by rw [HR.out]; simp [h2])
    clear h2
    (refine wp_region_ext (W := W1) (by kernel_rfl) (by kernel_rfl) (by with_reducible assumption) ?_; (repeat (go_big_quiet_step (fail))); refine wpQuiet_nil ?_; intro w1 hx)
    (obtain ⟨uq, rfl⟩ : ∃ u : ExtOf W1, w1 = u.1 := ⟨⟨w1, hx⟩, rfl⟩; clear hx; go_wp2_with fail)
    go_ret
    exact ⟨ret_bool HRR.out.symm, HX.out.trans (ExtOf.ext _)⟩
  subst h2
  have HRR : Hid (leadsB S x = S y) := Lib.hid (by rw [HR.out]; simp)
  have g3 : ∀ u : ExtOf W1, (Instr.lookup 57 (.map (some mb)) (.int .i64 y) false).run Tryz.prog u.1 = .ok (.bool (S y)) u.1 := fun u => HLKP.out ⟨u.1, HX.out.trans u.2⟩
  (refine wp_region_ext (W := W1) (by kernel_rfl) (by kernel_rfl) (by with_reducible assumption) ?_; (repeat (go_big_quiet_step (fail))); refine wpQuiet_nil ?_; intro w1 hx)
  (obtain ⟨uq, rfl⟩ : ∃ u : ExtOf W1, w1 = u.1 := ⟨⟨w1, hx⟩, rfl⟩; clear hx; go_wp2_with fail)
  go_ret
  exact ⟨ret_bool HRR.out.symm, HX.out.trans (ExtOf.ext _)⟩
end
end Go.Proofs.YtkcpfimhbogdcaaGreat

/- The rules on where words lead: state.handles, state.fields. -/
set_option linter.unusedSimpArgs false
set_option linter.unusedVariables false
namespace Go.Proofs.YtkcpfimhbogdcaaGreat
open Go.RowKit Go.Shelf

def handleB (S : Int → Bool) (x : Bool × Int × Int) : Bool := !x.1 || leadsB S x.2.2
/-- Do all fields of the object at a place lead to some of these? -/
def fieldsO (l : Option (List Int)) (S : Int → Bool) (x : Int) : Bool := (List.range (headH l x).f.toNat).all fun k => leadsB S (fldZ l x k false)
theorem fld_bd {ws : List Int} (h : ∀ z ∈ ws, 0 ≤ z ∧ z < 18446744073709551616) (i k : Int) (raw : Bool) : 0 ≤ fldZ (some ws) i k raw ∧ fldZ (some ws) i k raw < 18446744073709551616 := by
  rw [fldZ]
  split
  · rename_i h0
    have h1 := (place_in h0).2.2.2.1
    obtain ⟨ws', he, h2, h3⟩ := atA_zero h1
    injection he with he
    subst he
    rw [rdA, if_pos h1]
    simp only [Option.getD_some]
    exact h _ (getD_mem (by omega))
  · omega
section
variable {c0 c1 c2 c3 : Int} {sn : Bool} {wA : Option Addr} {ws : List Int} {wc : Nat} {top : Int} {tA : Option Addr} {tb : List (Int × Int)} {tc : Nat} {fA : Option Addr} {fr : List (Int × Int)} {fc : Nat} {sA : Option Addr} {sl : List (Bool × Int × Int)} {sc : Nat}
variable {V W : World} {L c mb n : Nat} {A1 : Option Addr} {cap1 : Nat} {wv : List Int} {A2 : Option Addr} {cap2 : Nat} {zs : List Int} {S : Int → Bool}
set_option maxRecDepth 100000
set_option maxHeartbeats 4000000
theorem sthandles_any (hLk : LkW V W L #[.int .i64 c0, .int .i64 c1, .int .i64 c2, .int .i64 c3, .bool sn, .slice wA ws.length wc, .int .i64 top, .slice tA tb.length tc, .slice fA fr.length fc, .slice sA sl.length sc] c mb n A1 cap1 wv A2 cap2 zs S) (HS : Pers V (fun w => SlotsAt w sA sl)) (hlen : sl.length ≤ 98304) (hbd : ∀ x ∈ sl, 0 ≤ x.2.2 ∧ x.2.2 < 18446744073709551616) :
    Calls Tryz.prog 67 #[.pointer (some ⟨L, 0, none⟩)] W fun e w' => e = .returned (.bool (sl.all (handleB S))) ∧ Ext W w' := by
  have hB : Pers W (fun w => w.heap[L]? = some (.cells #[.int .i64 c0, .int .i64 c1, .int .i64 c2, .int .i64 c3, .bool sn, .slice wA ws.length wc, .int .i64 top, .slice tA tb.length tc, .slice fA fr.length fc, .slice sA sl.length sc, .pointer (some ⟨c, 0, none⟩), .slice A2 zs.length cap2, .map (some mb)] 59 (0, 0))) := fun w k => (hLk.grow k).blk
  have HM : Pers W (fun w => SetI w mb n S) := fun w k => (hLk.grow k).st
  have HSW := HS.re hLk.ext
  have HBD := Lib.hid hbd
  have g := hB.cells
  clear hLk hbd
  refine at_baseC (W := W) fun uq => ?_
  go_enter Tryz.func67, Tryz.ntmps67
  go_wp2_with fail
  go_loopw [4, 11] (fun _ i wr => ∃ k : Nat, k ≤ sl.length ∧ i = .int .i64 k ∧ Ext W wr ∧ Hid (∀ i, i < k → handleB S (sl.getD i (false, 0, 0)) = true)) (fun _ i _ => sl.length - (intOf i).toNat)
  case atStart => exact ⟨0, by omega, rfl, uq.2, Lib.hid (by omega)⟩
  case round =>
    obtain ⟨k, hk, rfl, hxr, hq⟩ := hrel
    obtain ⟨uq, rfl⟩ : ∃ u : ExtOf W, wr = u.1 := ⟨⟨wr, hxr⟩, rfl⟩
    clear hxr
    by_cases hlt : k < sl.length
    rotate_left
    · have HA : Hid (sl.all (handleB S) = true) := Lib.hid (all_ofD fun i hi => hq.out i (by omega))
      clear hq
      go_wp2_with fail
      go_ret
      exact ⟨ret_bool HA.out.symm, uq.2⟩
    obtain ⟨lb, off, rfl, hc⟩ := (HSW.at uq.2).get (by omega)
    obtain ⟨c1', c2', c3'⟩ := slots_cell hc hlt
    have hzb := HBD.out _ (getD_mem (d := (false, 0, 0)) hlt)
    have ib1 : (k : Int) < (sl.length : Int) := by omega
    have HY := Lib.hid (fun (h : handleB S (sl.getD k (false, 0, 0)) = true) => upTo hq.out h)
    have HNO := Lib.hid (fun (h : handleB S (sl.getD k (false, 0, 0)) = false) => all_notD (p := handleB S) hlt h)
    clear hc hq
    generalize sl.getD k (false, 0, 0) = x at *
    obtain ⟨b, y, z⟩ := x
    simp only at c1' c2' c3' hzb
    obtain ⟨r, hr⟩ : ∃ r, leadsB S z = r := ⟨_, rfl⟩
    have HR := Lib.hid hr
    have HHB : Hid (handleB S (b, y, z) = (!b || r)) := Lib.hid (by simp only [handleB, hr])
    have HZB := Lib.hid hzb
    clear hr hzb
    cases b
    · have HYY := Lib.hid (HY.out (by rw [HHB.out]; rfl))
      go_wp2_with fail
      go_roundw
      case rel => exact ⟨k + 1, by omega, by go_num, uq.2.alloc _, HYY⟩
      case measure => simp [intOf]; omega
    · have hS := pers_new uq.1 #[.bool true, .int .i64 y, .int .u64 z] 48 _ rfl
      have hx := uq.2.alloc (.cells #[.bool true, .int .i64 y, .int .u64 z] 48)
      go_wp2_with fail
      generalize uq.1.alloc (.cells #[.bool true, .int .i64 y, .int .u64 z] 48) = W1 at *
      generalize uq.1.heap.size = X at *
      have HX := Lib.hid hx
      have g1 := hS.cells
      have hB1 := hB.re hx
      have HM1 := HM.re hx
      clear g hx c1' c2' c3'
      cases r
      · ((first | refine at_baseC (W := W1) ?_ | refine at_base (W := W1) ?_); intro uq; (try go_wp2_with fail))
        (refine (leads_any z _ HR.out (fun u => hB1.cells u 12) HM1 HZB.out _ (by repeat (first | (with_reducible exact Ext.refl _) | (with_reducible exact ExtOf.ext _) | (with_reducible assumption) | (with_reducible refine Ext.drew ?_) | (with_reducible refine Ext.alloc ?_ _)))).mono ?_; rintro e wq ⟨rfl, hx⟩; replace hx := Ext.trans (a := W1) (by repeat (first | (with_reducible exact Ext.refl _) | (with_reducible exact ExtOf.ext _) | (with_reducible assumption) | (with_reducible refine Ext.drew ?_) | (with_reducible refine Ext.alloc ?_ _))) hx; obtain ⟨uq, rfl⟩ : ∃ u : ExtOf W1, wq = u.1 := ⟨⟨wq, hx⟩, rfl⟩; clear hx; go_wp2_with fail)
        go_ret
        exact ⟨ret_bool (HNO.out (by rw [HHB.out]; rfl)).symm, HX.out.trans (ExtOf.ext _)⟩
      · ((first | refine at_baseC (W := W1) ?_ | refine at_base (W := W1) ?_); intro uq; (try go_wp2_with fail))
        (refine (leads_any z _ HR.out (fun u => hB1.cells u 12) HM1 HZB.out _ (by repeat (first | (with_reducible exact Ext.refl _) | (with_reducible exact ExtOf.ext _) | (with_reducible assumption) | (with_reducible refine Ext.drew ?_) | (with_reducible refine Ext.alloc ?_ _)))).mono ?_; rintro e wq ⟨rfl, hx⟩; replace hx := Ext.trans (a := W1) (by repeat (first | (with_reducible exact Ext.refl _) | (with_reducible exact ExtOf.ext _) | (with_reducible assumption) | (with_reducible refine Ext.drew ?_) | (with_reducible refine Ext.alloc ?_ _))) hx; obtain ⟨uq, rfl⟩ : ∃ u : ExtOf W1, wq = u.1 := ⟨⟨wq, hx⟩, rfl⟩; clear hx; go_wp2_with fail)
        go_roundw
        case rel => exact ⟨k + 1, by omega, by go_num, HX.out.trans (ExtOf.ext _), Lib.hid (HY.out (by rw [HHB.out]; rfl))⟩
        case measure => simp [intOf]; omega
end
end Go.Proofs.YtkcpfimhbogdcaaGreat

/- The rule on fields: state.fields (a set is gone over in whatever order). -/
set_option linter.unusedSimpArgs false
set_option linter.unusedVariables false
namespace Go.Proofs.YtkcpfimhbogdcaaGreat
open Go.RowKit Go.Shelf

theorem ofield_is (p : Option Addr) (l : Option (List Int)) (i k z er : Int) (h1 : fldZ l i k false = z) (h2 : placeE l i k false = er) (V : World) (hp : ArP V p l) (hi : -9223372036854775808 ≤ i ∧ i ≤ 9223372036854775807) :
    Calls Tryz.prog 83 #[.pointer p, .int .i64 i, .int .i64 k] V fun e w' => e = .returned (.tuple #[.int .u64 z, .int .i64 er]) ∧ Ext V w' := by
  rw [← h1, ← h2]; exact ofield_any p l i k V hp hi
section
variable {c0 c1 c2 c3 : Int} {sn : Bool} {wA : Option Addr} {ws : List Int} {wc : Nat} {top : Int} {tA : Option Addr} {tb : List (Int × Int)} {tc : Nat} {fA : Option Addr} {fr : List (Int × Int)} {fc : Nat} {sA : Option Addr} {sl : List (Bool × Int × Int)} {sc : Nat}
variable {V W : World} {L c mb n : Nat} {A1 : Option Addr} {cap1 : Nat} {wv : List Int} {A2 : Option Addr} {cap2 : Nat} {zs : List Int} {S : Int → Bool}
set_option maxRecDepth 100000
set_option maxHeartbeats 8000000
theorem stfields_any (hLk : LkW V W L #[.int .i64 c0, .int .i64 c1, .int .i64 c2, .int .i64 c3, .bool sn, .slice wA ws.length wc, .int .i64 top, .slice tA tb.length tc, .slice fA fr.length fc, .slice sA sl.length sc] c mb n A1 cap1 wv A2 cap2 zs S) (R : Bool) (hR1 : R = true → ∀ x, S x = true → fieldsO (some wv) S x = true) (hR2 : (∀ x, S x = true → fieldsO (some wv) S x = true) → R = true) :
    Calls Tryz.prog 66 #[.pointer (some ⟨L, 0, none⟩)] W fun e w' => e = .returned (.bool R) ∧ Ext W w' := by
  have hB : Pers W (fun w => w.heap[L]? = some (.cells #[.int .i64 c0, .int .i64 c1, .int .i64 c2, .int .i64 c3, .bool sn, .slice wA ws.length wc, .int .i64 top, .slice tA tb.length tc, .slice fA fr.length fc, .slice sA sl.length sc, .pointer (some ⟨c, 0, none⟩), .slice A2 zs.length cap2, .map (some mb)] 59 (0, 0))) := fun w k => (hLk.grow k).blk
  have HAR : Pers W (fun w => ArP w (some ⟨c, 0, none⟩) (some wv)) := fun w k => (hLk.grow k).ar.p
  have HM : Pers W (fun w => SetI w mb n S) := fun w k => (hLk.grow k).st
  have HFB := Lib.hid (fun i k => fld_bd hLk.ar.bd i k false)
  have H1 := Lib.hid hR1
  have H2 := Lib.hid hR2
  have g := hB.cells
  clear hLk hR1 hR2
  refine at_baseC (W := W) fun uq => ?_
  go_enter Tryz.func66, Tryz.ntmps66
  go_wp2_with (first | (at_range; refine wpList_set_range rfl (.tmp 12) rfl (HM.at uq.2) rfl ?_; intro w0 cnt hrg hx0; have HRG := Lib.hid hrg; have HX0 := Lib.hid (uq.2.trans hx0); clear hrg hx0) | go_in)
  go_frame
  have hr0 : W.heap.size ≤ uq.1.heap.size := uq.2.size
  generalize uq.1.heap.size = r at *
  go_loopw [3, 4, 5, 6, 7, 8, 29] (fun _ _ _ _ _ _ _ wr => ∃ (left : Int → Bool) (cnt : Nat), Hid (RngI wr mb r n S left cnt) ∧ Ext W wr ∧ Hid (∀ x, S x = true → left x = false → fieldsO (some wv) S x = true) ∧ Hid (∀ x, left x = true → S x = true)) (fun _ _ _ _ _ _ _ wr => wr.rangeLeft mb r)
  case atStart => exact ⟨S, cnt, HRG, HX0.out, Lib.hid (fun x h1 h2 => by rw [h1] at h2; cases h2), Lib.hid (fun x h => h)⟩
  case round =>
    obtain ⟨left, cnt', HR, hxr, HF, HLS⟩ := hrel
    clear HRG
    have HXR := Lib.hid hxr
    clear hxr
    go_wp2_with (first | (at_next; refine wpList_set_next rfl (.tmp 13) rfl rfl HR.out ?_ ?_) | go_in)
    · intro hl0
      have HT := Lib.hid (H2.out fun x hx => HF.out x hx (hl0 x))
      clear hl0
      go_wp2_with fail
      go_ret
      exact ⟨ret_bool HT.out.symm, HXR.out⟩
    intro x w1 cnt1 hwx hlx hrg1 hlt hg1 hs1 hen
    have hx1 : Ext W w1 := Below.grown HXR.out hg1 HXR.out.size (fun k hk => by injection hk with hk; omega)
    have HRG1 := hrg1.pers
    have hlf := HR.out.left_eq
    have HLE := Lib.hid hlf
    have HLT := Lib.hid hlt
    have hxb : -9223372036854775808 ≤ x ∧ x ≤ 9223372036854775807 := i64_bd hwx
    have HSX := Lib.hid (HLS.out x hlx)
    obtain ⟨er, her⟩ : ∃ e, headE (some wv) x = e := ⟨_, rfl⟩
    obtain ⟨h, hh⟩ : ∃ h, headH (some wv) x = h := ⟨_, rfl⟩
    have hfb : 0 ≤ h.f ∧ h.f ≤ 4096 := by
      by_cases h0 : headE (some wv) x = 0
      · have := head_sum h0; rw [hh] at this; omega
      · have h2 := headH_bad rfl h0
        rw [hh] at h2
        rw [h2]; exact ⟨by decide, by decide⟩
    obtain ⟨hf1, hf2⟩ := hfb
    have HER := Lib.hid her
    have HH := Lib.hid hh
    have HX1 := Lib.hid hx1
    clear hrg1 hlt hg1 hs1 hwx hlx her hlf g hx1
    replace hB := hB.re HX1.out
    replace HAR := HAR.re HX1.out
    replace HM := HM.re HX1.out
    have g1 := (cells_of hB.here).1
    clear HR
    go_wp2_with fail
    (refine (ohead_is (some ⟨c, 0, none⟩) (some wv) x h er HH.out HER.out _ (HAR.at (by repeat (first | (with_reducible exact Ext.refl _) | (with_reducible exact ExtOf.ext _) | (with_reducible assumption) | (with_reducible refine Ext.drew ?_) | (with_reducible refine Ext.alloc ?_ _)))) hxb).mono ?_; rintro e w2 ⟨rfl, hx⟩; replace hx := Ext.trans (a := w1) (by repeat (first | (with_reducible exact Ext.refl _) | (with_reducible exact ExtOf.ext _) | (with_reducible assumption) | (with_reducible refine Ext.drew ?_) | (with_reducible refine Ext.alloc ?_ _))) hx)
    have HBH := pers_new w2 #[.int .i64 h.k, .int .i64 h.f, .int .i64 h.r, .bool h.m, .int .i64 h.c] 36 _ rfl
    replace hx := hx.alloc (.cells #[.int .i64 h.k, .int .i64 h.f, .int .i64 h.r, .bool h.m, .int .i64 h.c] 36)
    clear hen g1
    go_wp2_with fail
    generalize w2.alloc (.cells #[.int .i64 h.k, .int .i64 h.f, .int .i64 h.r, .bool h.m, .int .i64 h.c] 36) = W3 at *
    generalize w2.heap.size = X at *
    (replace hB := hB.re hx; replace HAR := HAR.re hx; replace HM := HM.re hx; replace HRG1 := HRG1.re hx)
    have HX3 := Lib.hid (HX1.out.trans hx)
    have g := hB.cells
    clear hx HBH
    have hx3 := Ext.refl W3
    go_loopw [6, 7, 8, 29] (fun _ _ _ i wr => ∃ k : Nat, i = .int .i64 k ∧ (k : Int) ≤ h.f ∧ Ext W3 wr ∧ Hid (∀ j : Nat, j < k → leadsB S (fldZ (some wv) x j false) = true)) (fun _ _ _ i _ => (h.f - intOf i).toNat)
    case atStart => exact ⟨0, rfl, by omega, hx3, Lib.hid (by omega)⟩
    case round =>
      obtain ⟨k, rfl, hk, hxr, hq⟩ := hrel
      obtain ⟨uq, rfl⟩ : ∃ u : ExtOf W3, wr = u.1 := ⟨⟨wr, hxr⟩, rfl⟩
      clear hxr
      by_cases hlt : (k : Int) < h.f
      rotate_left
      · have d1 : decide ((k : Int) < h.f) = false := by simpa using hlt
        have HFO : Hid (fieldsO (some wv) S x = true) := Lib.hid (by
          rw [fieldsO, HH.out, List.all_eq_true]
          intro j hj
          exact hq.out j (by have := List.mem_range.1 hj; omega))
        have HRG4 := Lib.hid (HRG1.at uq.2)
        have HX4 := Lib.hid (HX3.out.trans uq.2)
        have HF4 : Hid (∀ y, S y = true → (left y && !(y == x)) = false → fieldsO (some wv) S y = true) := Lib.hid (fun y hy hl => by
          by_cases e : y = x
          · rw [e]; exact HFO.out
          · refine HF.out y hy ?_
            have h0 : (y == x) = false := by rw [beq_eq_false_iff_ne]; exact e
            simpa [h0] using hl)
        have HL4 : Hid (∀ y, (left y && !(y == x)) = true → S y = true) := Lib.hid (fun y hy => HLS.out y (by
          simp only [Bool.and_eq_true] at hy; exact hy.1))
        clear hq hlt hk
        go_wp2_with fail
        go_roundw
        case rel => exact ⟨_, cnt1, HRG4, HX4.out, HF4, HL4⟩
        case measure => rw [HRG4.out.left_eq, HLE.out]; exact HLT.out
      have d1 : decide ((k : Int) < h.f) = true := by simpa using hlt
      obtain ⟨z, hz⟩ : ∃ z, fldZ (some wv) x k false = z := ⟨_, rfl⟩
      obtain ⟨er2, her2⟩ : ∃ z, placeE (some wv) x k false = z := ⟨_, rfl⟩
      obtain ⟨r, hr⟩ : ∃ r, leadsB S z = r := ⟨_, rfl⟩
      have hzb := HFB.out x k
      rw [hz] at hzb
      have HZ := Lib.hid hz
      have HE2 := Lib.hid her2
      have HR := Lib.hid hr
      have HZB := Lib.hid hzb
      clear hz her2 hr hzb
      cases r
      · have HRF : Hid (R = false) := Lib.hid (by
          cases hR : R
          · rfl
          · have h0 := H1.out hR x HSX.out
            rw [fieldsO, HH.out, List.all_eq_true] at h0
            have h2 := h0 k (List.mem_range.2 (by omega))
            rw [HZ.out, HR.out] at h2
            cases h2)
        go_wp2_with fail
        (refine (ofield_is (some ⟨c, 0, none⟩) (some wv) x k z er2 HZ.out HE2.out _ (HAR.at (by repeat (first | (with_reducible exact Ext.refl _) | (with_reducible exact ExtOf.ext _) | (with_reducible assumption) | (with_reducible refine Ext.drew ?_) | (with_reducible refine Ext.alloc ?_ _)))) hxb).mono ?_; rintro e wq ⟨rfl, hx⟩; replace hx := Ext.trans (a := W3) (by repeat (first | (with_reducible exact Ext.refl _) | (with_reducible exact ExtOf.ext _) | (with_reducible assumption) | (with_reducible refine Ext.drew ?_) | (with_reducible refine Ext.alloc ?_ _))) hx; obtain ⟨uq, rfl⟩ : ∃ u : ExtOf W3, wq = u.1 := ⟨⟨wq, hx⟩, rfl⟩; clear hx; go_wp2_with fail)
        (refine (leads_any z _ HR.out (fun u => hB.cells u 12) HM HZB.out _ (by repeat (first | (with_reducible exact Ext.refl _) | (with_reducible exact ExtOf.ext _) | (with_reducible assumption) | (with_reducible refine Ext.drew ?_) | (with_reducible refine Ext.alloc ?_ _)))).mono ?_; rintro e wq ⟨rfl, hx⟩; replace hx := Ext.trans (a := W3) (by repeat (first | (with_reducible exact Ext.refl _) | (with_reducible exact ExtOf.ext _) | (with_reducible assumption) | (with_reducible refine Ext.drew ?_) | (with_reducible refine Ext.alloc ?_ _))) hx; obtain ⟨uq, rfl⟩ : ∃ u : ExtOf W3, wq = u.1 := ⟨⟨wq, hx⟩, rfl⟩; clear hx; go_wp2_with fail)
        go_ret
        exact ⟨ret_bool HRF.out.symm, HX3.out.trans (ExtOf.ext _)⟩
      · have HQ : Hid (∀ j : Nat, j < k + 1 → leadsB S (fldZ (some wv) x j false) = true) := Lib.hid (fun j hj => by
          rcases Nat.lt_or_ge j k with h' | h'
          · exact hq.out j h'
          · obtain rfl : j = k := by omega
            rw [HZ.out]; exact HR.out)
        clear hq
        go_wp2_with fail
        (refine (ofield_is (some ⟨c, 0, none⟩) (some wv) x k z er2 HZ.out HE2.out _ (HAR.at (by repeat (first | (with_reducible exact Ext.refl _) | (with_reducible exact ExtOf.ext _) | (with_reducible assumption) | (with_reducible refine Ext.drew ?_) | (with_reducible refine Ext.alloc ?_ _)))) hxb).mono ?_; rintro e wq ⟨rfl, hx⟩; replace hx := Ext.trans (a := W3) (by repeat (first | (with_reducible exact Ext.refl _) | (with_reducible exact ExtOf.ext _) | (with_reducible assumption) | (with_reducible refine Ext.drew ?_) | (with_reducible refine Ext.alloc ?_ _))) hx; obtain ⟨uq, rfl⟩ : ∃ u : ExtOf W3, wq = u.1 := ⟨⟨wq, hx⟩, rfl⟩; clear hx; go_wp2_with fail)
        (refine (leads_any z _ HR.out (fun u => hB.cells u 12) HM HZB.out _ (by repeat (first | (with_reducible exact Ext.refl _) | (with_reducible exact ExtOf.ext _) | (with_reducible assumption) | (with_reducible refine Ext.drew ?_) | (with_reducible refine Ext.alloc ?_ _)))).mono ?_; rintro e wq ⟨rfl, hx⟩; replace hx := Ext.trans (a := W3) (by repeat (first | (with_reducible exact Ext.refl _) | (with_reducible exact ExtOf.ext _) | (with_reducible assumption) | (with_reducible refine Ext.drew ?_) | (with_reducible refine Ext.alloc ?_ _))) hx; obtain ⟨uq, rfl⟩ : ∃ u : ExtOf W3, wq = u.1 := ⟨⟨wq, hx⟩, rfl⟩; clear hx; go_wp2_with fail)
        go_roundw
        case rel => exact ⟨k + 1, by go_num, by omega, ExtOf.ext _, HQ⟩
        case measure => simp [intOf]; omega
end
end Go.Proofs.YtkcpfimhbogdcaaGreat

/- The reference of a heap's rules: quiet, Leads; good and Right of the table of handles. -/
set_option linter.unusedSimpArgs false
set_option linter.unusedVariables false
namespace Go.Proofs.YtkcpfimhbogdcaaGreat
open Go.RowKit Go.Shelf

set_option maxRecDepth 100000
set_option maxHeartbeats 1000000
theorem refquiet_is (h : Hd) (b : Bool) (hb : quietB h = b) (V : World) : Calls Tryz.prog 29 #[.agg #[.int .i64 h.k, .int .i64 h.f, .int .i64 h.r, .bool h.m, .int .i64 h.c]] V fun e w' => e = .returned (.bool b) ∧ Ext V w' := by
  obtain ⟨hk, hf, hr, m, c⟩ := h
  subst hb
  obtain ⟨b, hb⟩ : ∃ b, (c == 0) = b := ⟨_, rfl⟩
  cases m
  · have HR : Hid (quietB ⟨hk, hf, hr, false, c⟩ = b) := Lib.hid (by simp [quietB, ← hb])
    go_enter Tryz.func29, Tryz.ntmps29
    go_wp2_with fail
    go_ret
    exact ⟨ret_bool HR.out.symm, (Ext.refl V).alloc _⟩
  · have HR : Hid (quietB ⟨hk, hf, hr, true, c⟩ = false) := Lib.hid (by simp [quietB])
    go_enter Tryz.func29, Tryz.ntmps29
    go_wp2_with fail
    go_ret
    exact ⟨ret_bool HR.out.symm, (Ext.refl V).alloc _⟩
theorem refgood_is (b : Bool) (g z : Int) (r : Bool) (h : goodB g = r) (V : World) : Calls Tryz.prog 57 #[.agg #[.bool b, .int .i64 g, .int .u64 z]] V fun e w' => e = .returned (.bool r) ∧ Ext V w' := by
  subst h
  by_cases h1 : 0 ≤ g
  · have d1 : decide (0 ≤ g) = true := by simpa using h1
    have HR : Hid (goodB g = decide (g < 1099511627776)) := Lib.hid (by simp [goodB, h1])
    clear h1
    go_enter Tryz.func57, Tryz.ntmps57
    go_wp2_with fail
    go_ret
    exact ⟨ret_bool HR.out.symm, (Ext.refl V).alloc _⟩
  · have d1 : decide (0 ≤ g) = false := by simpa using h1
    have HR : Hid (goodB g = false) := Lib.hid (by simp [goodB]; omega)
    clear h1
    go_enter Tryz.func57, Tryz.ntmps57
    go_wp2_with fail
    go_ret
    exact ⟨ret_bool HR.out.symm, (Ext.refl V).alloc _⟩
theorem refvdec_is (v t x er : Int) (h1 : decT v = t) (h2 : decX v = x) (h3 : decE v = er) (w : World) (h0 : 0 ≤ v ∧ v < 18446744073709551616) :
    Calls Tryz.prog 58 #[.int .u64 v] w fun e w' => e = .returned (.tuple #[.agg #[.int .i64 t, .int .i64 x], .int .i64 er]) ∧ Ext w w' := by
  subst h1 h2 h3
  exact refdec_any v w h0.1 h0.2
theorem refleads_any (A : Option Addr) (cap : Nat) (zs : List Int) (v : Int) (V : World) (hl : IntsAt V A zs) (hlen : zs.length ≤ 9223372036854775807) (hv : 0 ≤ v ∧ v < 18446744073709551616) :
    Calls Tryz.prog 33 #[.slice A zs.length cap, .int .u64 v] V fun e w' => e = .returned (.bool (leadsB (fun x => decide (x ∈ zs)) v)) ∧ Ext V w' := by
  have HL := pers_row hl
  obtain ⟨t, ht⟩ : ∃ t, decT v = t := ⟨_, rfl⟩
  obtain ⟨x, hx⟩ : ∃ t, decX v = t := ⟨_, rfl⟩
  obtain ⟨er, her⟩ : ∃ t, decE v = t := ⟨_, rfl⟩
  have HLB : Hid (leadsB (fun x => decide (x ∈ zs)) v = (decide (er = 0) && (!(t == 2) || decide (x ∈ zs)))) := Lib.hid (by simp only [leadsB, her, ht, hx])
  have HT := Lib.hid ht
  have HXX := Lib.hid hx
  have HE := Lib.hid her
  clear hl ht hx her
  by_cases h0 : er = 0
  rotate_left
  · have q0 : (er != 0) = true := by rw [bne_iff_ne]; exact h0
    have HR : Hid (leadsB (fun x => decide (x ∈ zs)) v = false) := Lib.hid (by rw [HLB.out, decide_eq_false h0]; rfl)
    clear h0
    go_enter Tryz.func33, Tryz.ntmps33
    go_wp2_with fail
    refine (refvdec_is v t x er HT.out HXX.out HE.out _ hv).mono ?_
    rintro e w1 ⟨rfl, hx⟩
    have HX := Lib.hid hx
    clear hx
    go_wp2_with fail
    go_ret
    exact ⟨ret_bool HR.out.symm, HX.out.alloc _⟩
  subst h0
  by_cases h2 : t = 2
  rotate_left
  · have q2 : (t != 2) = true := by rw [bne_iff_ne]; exact h2
    have HR : Hid (leadsB (fun x => decide (x ∈ zs)) v = true) := Lib.hid (by rw [HLB.out]; simp [h2])
    clear h2
    go_enter Tryz.func33, Tryz.ntmps33
    go_wp2_with fail
    refine (refvdec_is v t x 0 HT.out HXX.out HE.out _ hv).mono ?_
    rintro e w1 ⟨rfl, hx⟩
    have HX := Lib.hid hx
    clear hx
    go_wp2_with fail
    go_ret
    exact ⟨ret_bool HR.out.symm, HX.out.alloc _⟩
  subst h2
  have HR : Hid (leadsB (fun x => decide (x ∈ zs)) v = decide (x ∈ zs)) := Lib.hid (by rw [HLB.out]; simp)
  go_enter Tryz.func33, Tryz.ntmps33
  go_wp2_with fail
  refine (refvdec_is v 2 x 0 HT.out HXX.out HE.out _ hv).mono ?_
  rintro e w1 ⟨rfl, hx⟩
  have HX := Lib.hid (hx.alloc (.cells #[.int .i64 2, .int .i64 x] 99))
  clear hx
  go_wp2_with fail
  refine (refstarts_any A cap zs x _ hlen (HL.at HX.out)).mono ?_
  rintro e w2 ⟨rfl, hx⟩
  have HX2 := Lib.hid (HX.out.trans hx)
  clear hx
  go_wp2_with fail
  go_ret
  exact ⟨ret_bool HR.out.symm, HX2.out⟩
theorem ref14right_any (A : Option Addr) (cap : Nat) (sl : List (Bool × Int × Int)) (n : Int) (V : World) (hl : SlotsAt V A sl) (hlen : sl.length ≤ 9223372036854775807) (hbd : ∀ x ∈ sl, 0 ≤ x.2.2 ∧ x.2.2 < 18446744073709551616) :
    Calls Tryz.prog 32 #[.slice A sl.length cap, .int .i64 n] V fun e w' => e = .returned (.bool (slotsB sl n)) ∧ Ext V w' := by
  have HL := pers_row hl
  have HBD := Lib.hid hbd
  clear hl hbd
  by_cases h1 : (sl.length : Int) = n
  rotate_left
  · have q1 : ((sl.length : Int) != n) = true := by rw [bne_iff_ne]; exact h1
    have HR : Hid (slotsB sl n = false) := Lib.hid (by simp [slotsB]; omega)
    clear h1
    go_enter Tryz.func32, Tryz.ntmps32
    go_wp2_with fail
    go_ret
    exact ⟨ret_bool HR.out.symm, Ext.refl _⟩
  have q1 : ((sl.length : Int) != n) = false := by rw [bne_eq_false_iff_eq]; exact h1
  by_cases h2 : n < 1
  · have q2 : decide (n < 1) = true := by simpa using h2
    have HR : Hid (slotsB sl n = false) := Lib.hid (by simp [slotsB]; omega)
    clear h1 h2
    go_enter Tryz.func32, Tryz.ntmps32
    go_wp2_with fail
    go_ret
    exact ⟨ret_bool HR.out.symm, Ext.refl _⟩
  have q2 : decide (n < 1) = false := by simpa using h2
  by_cases h3 : 1024 < n
  · have q3 : decide (1024 < n) = true := by simpa using h3
    have HR : Hid (slotsB sl n = false) := Lib.hid (by simp [slotsB]; omega)
    clear h1 h2 h3
    go_enter Tryz.func32, Tryz.ntmps32
    go_wp2_with fail
    go_ret
    exact ⟨ret_bool HR.out.symm, Ext.refl _⟩
  have q3 : decide (1024 < n) = false := by simpa using h3
  have HNN : Hid ((sl.length : Int) = n ∧ 1 ≤ n ∧ n ≤ 1024) := Lib.hid (by omega)
  clear h1 h2 h3
  go_enter Tryz.func32, Tryz.ntmps32
  go_wp2_with fail
  clear q1 q2 q3
  go_loopw [5, 6, 7] (fun i _ _ wr => ∃ k : Nat, k ≤ sl.length ∧ i = .int .i64 k ∧ Ext V wr ∧ Hid (∀ i, i < k → slotB (sl.getD i (false, 0, 0)) = true)) (fun i _ _ _ => sl.length - (intOf i).toNat)
  case atStart => exact ⟨0, by omega, rfl, Ext.refl _, Lib.hid (by omega)⟩
  case round =>
    obtain ⟨k, hk, rfl, hxr, hq⟩ := hrel
    by_cases hlt : k < sl.length
    rotate_left
    · have HA : Hid (sl.all slotB = true) := Lib.hid (all_ofD fun i hi => hq.out i (by omega))
      have HR : Hid (slotsB sl n = true) := Lib.hid (by simp only [slotsB, HA.out, Bool.true_and, decide_eq_true_eq]; exact HNN.out)
      clear hq
      go_wp2_with fail
      go_ret
      exact ⟨ret_bool HR.out.symm, hxr⟩
    obtain ⟨lb, off, rfl, hc⟩ := (HL.at hxr).get (by omega)
    obtain ⟨c1, c2, c3⟩ := slots_cell hc hlt
    have ib0 : (0 : Int) ≤ (k : Int) := by omega
    have ib1 : (k : Int) < (sl.length : Int) := by omega
    have hzb := HBD.out _ (getD_mem (d := (false, 0, 0)) hlt)
    have HY := Lib.hid (fun (h : slotB (sl.getD k (false, 0, 0)) = true) => upTo hq.out h)
    have HNO := Lib.hid (fun (h : slotB (sl.getD k (false, 0, 0)) = false) => (by rw [slotsB, all_notD hlt h]; rfl : slotsB sl n = false))
    have HX := Lib.hid hxr
    clear hc HL HBD hq
    replace c1 := pers_cell c1
    replace c2 := pers_cell c2
    replace c3 := pers_cell c3
    generalize sl.getD k (false, 0, 0) = x at *
    obtain ⟨b, g, z⟩ := x
    simp only at c1 c2 c3 hzb
    obtain ⟨t, ht⟩ : ∃ t, decT z = t := ⟨_, rfl⟩
    obtain ⟨x, hx⟩ : ∃ t, decX z = t := ⟨_, rfl⟩
    obtain ⟨er, her⟩ : ∃ t, decE z = t := ⟨_, rfl⟩
    have HSB : Hid (slotB (b, g, z) = (decide (er = 0) && (goodB g || (!b && (g == 1099511627776))) && (b || (z == 0)))) := Lib.hid (by simp only [slotB, her])
    have HT := Lib.hid ht
    have HXX := Lib.hid hx
    have HE := Lib.hid her
    clear ht hx her hxr
    cases b
    · by_cases g1 : g < 0
      · have d1 : decide (g < 0) = true := by simpa using g1
        have HR := Lib.hid (HNO.out (by rw [HSB.out]; have : goodB g = false := by { simp [goodB]; omega }; have h2 : (g == 1099511627776) = false := by { rw [beq_eq_false_iff_ne]; omega }; rw [this, h2]; simp))
        clear g1
        ((first | refine at_baseC (W := wr) ?_ | refine at_base (W := wr) ?_); intro uq; (try go_wp2_with fail))
        go_ret
        exact ⟨ret_bool HR.out.symm, HX.out.trans (ExtOf.ext _)⟩
      have d1 : decide (g < 0) = false := by simpa using g1
      by_cases g2 : 1099511627776 < g
      · have d2 : decide (1099511627776 < g) = true := by simpa using g2
        have HR := Lib.hid (HNO.out (by rw [HSB.out]; have : goodB g = false := by { simp [goodB]; omega }; have h2 : (g == 1099511627776) = false := by { rw [beq_eq_false_iff_ne]; omega }; rw [this, h2]; simp))
        clear g1 g2
        ((first | refine at_baseC (W := wr) ?_ | refine at_base (W := wr) ?_); intro uq; (try go_wp2_with fail))
        go_ret
        exact ⟨ret_bool HR.out.symm, HX.out.trans (ExtOf.ext _)⟩
      have d2 : decide (1099511627776 < g) = false := by simpa using g2
      have HGG : Hid ((goodB g || (g == 1099511627776)) = true) := Lib.hid (by simp [goodB]; omega)
      clear g1 g2
      by_cases z0 : z = 0
      rotate_left
      · have d3 : (z != 0) = true := by rw [bne_iff_ne]; exact z0
        have HR := Lib.hid (HNO.out (by rw [HSB.out]; have : (z == 0) = false := by { rw [beq_eq_false_iff_ne]; exact z0 }; rw [this]; simp))
        clear z0
        ((first | refine at_baseC (W := wr) ?_ | refine at_base (W := wr) ?_); intro uq; (try go_wp2_with fail))
        go_ret
        exact ⟨ret_bool HR.out.symm, HX.out.trans (ExtOf.ext _)⟩
      have d3 : (z != 0) = false := by rw [bne_eq_false_iff_eq]; exact z0
      have HZ0 := Lib.hid z0
      clear z0
      by_cases h0 : er = 0
      rotate_left
      · have q0 : (er != 0) = true := by rw [bne_iff_ne]; exact h0
        have HR := Lib.hid (HNO.out (by rw [HSB.out, decide_eq_false h0]; rfl))
        clear h0
        ((first | refine at_baseC (W := wr) ?_ | refine at_base (W := wr) ?_); intro uq; (try go_wp2_with fail))
        (refine (refvdec_is z t x er HT.out HXX.out HE.out _ hzb).mono ?_; rintro e wq ⟨rfl, hx⟩; replace hx := Ext.trans (a := wr) (by repeat (first | (with_reducible exact Ext.refl _) | (with_reducible exact ExtOf.ext _) | (with_reducible assumption) | (with_reducible refine Ext.drew ?_) | (with_reducible refine Ext.alloc ?_ _))) hx; obtain ⟨uq, rfl⟩ : ∃ u : ExtOf wr, wq = u.1 := ⟨⟨wq, hx⟩, rfl⟩; clear hx; go_wp2_with fail)
        go_ret
        exact ⟨ret_bool HR.out.symm, (HX.out.trans (ExtOf.ext _)).alloc _⟩
      subst h0
      have HYY := Lib.hid (HY.out (by rw [HSB.out, HZ0.out]; have := HGG.out; simpa using this))
      ((first | refine at_baseC (W := wr) ?_ | refine at_base (W := wr) ?_); intro uq; (try go_wp2_with fail))
      (refine (refvdec_is z t x 0 HT.out HXX.out HE.out _ hzb).mono ?_; rintro e wq ⟨rfl, hx⟩; replace hx := Ext.trans (a := wr) (by repeat (first | (with_reducible exact Ext.refl _) | (with_reducible exact ExtOf.ext _) | (with_reducible assumption) | (with_reducible refine Ext.drew ?_) | (with_reducible refine Ext.alloc ?_ _))) hx; obtain ⟨uq, rfl⟩ : ∃ u : ExtOf wr, wq = u.1 := ⟨⟨wq, hx⟩, rfl⟩; clear hx; go_wp2_with fail)
      go_roundw
      case rel => exact ⟨k + 1, by omega, by go_num, (HX.out.trans (ExtOf.ext _)).alloc _, HYY⟩
      case measure => simp [intOf]; omega
    · obtain ⟨gd, hgd⟩ : ∃ t, goodB g = t := ⟨_, rfl⟩
      have HG := Lib.hid hgd
      cases gd
      · have HR := Lib.hid (HNO.out (by rw [HSB.out, HG.out]; simp))
        clear hgd
        ((first | refine at_baseC (W := wr) ?_ | refine at_base (W := wr) ?_); intro uq; (try go_wp2_with fail))
        (refine (refgood_is true g z false HG.out _).mono ?_; rintro e wq ⟨rfl, hx⟩; replace hx := Ext.trans (a := wr) (by repeat (first | (with_reducible exact Ext.refl _) | (with_reducible exact ExtOf.ext _) | (with_reducible assumption) | (with_reducible refine Ext.drew ?_) | (with_reducible refine Ext.alloc ?_ _))) hx; obtain ⟨uq, rfl⟩ : ∃ u : ExtOf wr, wq = u.1 := ⟨⟨wq, hx⟩, rfl⟩; clear hx; go_wp2_with fail)
        go_ret
        exact ⟨ret_bool HR.out.symm, HX.out.trans (ExtOf.ext _)⟩
      have hgb : 0 ≤ g ∧ g < 1099511627776 := by simpa [goodB] using hgd
      have d1 : decide (g < 0) = false := by simp; omega
      have d2 : decide (1099511627776 < g) = false := by simp; omega
      clear hgd hgb
      by_cases h0 : er = 0
      rotate_left
      · have q0 : (er != 0) = true := by rw [bne_iff_ne]; exact h0
        have HR := Lib.hid (HNO.out (by rw [HSB.out, decide_eq_false h0]; rfl))
        clear h0
        ((first | refine at_baseC (W := wr) ?_ | refine at_base (W := wr) ?_); intro uq; (try go_wp2_with fail))
        (refine (refgood_is true g z true HG.out _).mono ?_; rintro e wq ⟨rfl, hx⟩; replace hx := Ext.trans (a := wr) (by repeat (first | (with_reducible exact Ext.refl _) | (with_reducible exact ExtOf.ext _) | (with_reducible assumption) | (with_reducible refine Ext.drew ?_) | (with_reducible refine Ext.alloc ?_ _))) hx; obtain ⟨uq, rfl⟩ : ∃ u : ExtOf wr, wq = u.1 := ⟨⟨wq, hx⟩, rfl⟩; clear hx; go_wp2_with fail)
        (refine (refvdec_is z t x er HT.out HXX.out HE.out _ hzb).mono ?_; rintro e wq ⟨rfl, hx⟩; replace hx := Ext.trans (a := wr) (by repeat (first | (with_reducible exact Ext.refl _) | (with_reducible exact ExtOf.ext _) | (with_reducible assumption) | (with_reducible refine Ext.drew ?_) | (with_reducible refine Ext.alloc ?_ _))) hx; obtain ⟨uq, rfl⟩ : ∃ u : ExtOf wr, wq = u.1 := ⟨⟨wq, hx⟩, rfl⟩; clear hx; go_wp2_with fail)
        go_ret
        exact ⟨ret_bool HR.out.symm, (HX.out.trans (ExtOf.ext _)).alloc _⟩
      subst h0
      have HYY := Lib.hid (HY.out (by rw [HSB.out, HG.out]; simp))
      ((first | refine at_baseC (W := wr) ?_ | refine at_base (W := wr) ?_); intro uq; (try go_wp2_with fail))
      (refine (refgood_is true g z true HG.out _).mono ?_; rintro e wq ⟨rfl, hx⟩; replace hx := Ext.trans (a := wr) (by repeat (first | (with_reducible exact Ext.refl _) | (with_reducible exact ExtOf.ext _) | (with_reducible assumption) | (with_reducible refine Ext.drew ?_) | (with_reducible refine Ext.alloc ?_ _))) hx; obtain ⟨uq, rfl⟩ : ∃ u : ExtOf wr, wq = u.1 := ⟨⟨wq, hx⟩, rfl⟩; clear hx; go_wp2_with fail)
      (refine (refvdec_is z t x 0 HT.out HXX.out HE.out _ hzb).mono ?_; rintro e wq ⟨rfl, hx⟩; replace hx := Ext.trans (a := wr) (by repeat (first | (with_reducible exact Ext.refl _) | (with_reducible exact ExtOf.ext _) | (with_reducible assumption) | (with_reducible refine Ext.drew ?_) | (with_reducible refine Ext.alloc ?_ _))) hx; obtain ⟨uq, rfl⟩ : ∃ u : ExtOf wr, wq = u.1 := ⟨⟨wq, hx⟩, rfl⟩; clear hx; go_wp2_with fail)
      go_roundw
      case rel => exact ⟨k + 1, by omega, by go_num, (HX.out.trans (ExtOf.ext _)).alloc _, HYY⟩
      case measure => simp [intOf]; omega
end Go.Proofs.YtkcpfimhbogdcaaGreat

