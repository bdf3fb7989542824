/- The places of all objects of a walk: walk.List. -/
import Derived.Test.YtkcpfimhbogdcaaWkB
import Derived.Test.YtkcpfimhbogdcaaCollG
set_option linter.unusedSimpArgs false
set_option linter.unusedVariables false
namespace Go.Proofs.Ytkcpfimhbogdcaa
open Go.RowKit Go.Shelf
attribute [local go_sem] Oper.semAt_some

def placesL (pre : List Stp) : List Int := (pre.filter fun x => !x.last).map (·.at_)
theorem places_go (pre : List Stp) (x : Stp) (h : x.last = false) : placesL (pre ++ [x]) = placesL pre ++ [x.at_] := by simp [placesL, h]
theorem places_last (pre : List Stp) (x : Stp) (h : x.last = true) : placesL (pre ++ [x]) = placesL pre := by simp [placesL, h]
theorem places_len (pre : List Stp) : (placesL pre).length ≤ pre.length := by simp only [placesL, List.length_map]; exact List.length_filter_le _ _
theorem steps_len (l : Option (List Int)) (top : Int) : ∀ (n : Nat) (i : Int), (stepsF l top n i).length ≤ n + 1 := by
  intro n
  induction n with
  | zero => intro i; simp [stepsF]
  | succ n ih =>
    intro i
    rw [stepsF]
    split
    · split
      · have := ih (i + hsize (headH l i)); simp; omega
      · simp
    · simp
/-- The places of the objects of a walk. -/
def listA (l : Option (List Int)) (a s top : Int) : List Int := if stopE l a s top = 0 then placesL (stepsA l top a) else []
theorem stop_is (p : Option Addr) (l : Option (List Int)) (a s top x er : Int) (h1 : stopA l a s top = x) (h2 : stopE l a s top = er) (V : World) (hp : ArP V p l) :
    Calls Try.prog 14 #[.pointer p, .agg #[.int .i64 (a), .int .i64 (s)], .int .i64 top] V fun e w' => e = .returned (.tuple #[.int .i64 x, .int .i64 er]) ∧ Ext V w' := by
  rw [← h1, ← h2]; exact stop_any p l a s top V hp
/-- A slice of numbers and an error come back. -/
def RetIE (V : World) (zs : List Int) (er : Int) (e : Ending) (w' : World) : Prop := ∃ A1 cap1, e = .returned (.tuple #[.slice A1 zs.length cap1, .int .i64 er]) ∧ IntsAt w' A1 zs ∧ Ext V w'
set_option maxRecDepth 100000
set_option maxHeartbeats 8000000
theorem list_any (p : Option Addr) (l : Option (List Int)) (a s top : Int) (V : World) (hp : ArP V p l) :
    Calls Try.prog 13 #[.pointer p, .agg #[.int .i64 (a), .int .i64 (s)], .int .i64 top] V (RetIE V (listA l a s top) (stopE l a s top)) := by
  have HP := Lib.hid hp
  have hb4 := blk_new V #[.int .i64 a, .int .i64 s] 23 _ rfl
  have hW : Ext V (V.alloc (.cells #[.int .i64 a, .int .i64 s] 23)) := (Ext.refl V).alloc _
  obtain ⟨x0, hx0⟩ : ∃ x, stopA l a s top = x := ⟨_, rfl⟩
  obtain ⟨er, her⟩ : ∃ x, stopE l a s top = x := ⟨_, rfl⟩
  have HSA := Lib.hid hx0
  have HSE := Lib.hid her
  have HLA := Lib.hid (show listA l a s top = if er = 0 then placesL (stepsA l top a) else [] by rw [listA, her])
  clear hx0 her hp
  refine (callsIn_wide (n := 5)).1 ?_
  have hro : Fence.wide.round = none := rfl
  refine callsIn_of_wp_marks Try.func13 rfl trivial ?_ hro
  simp only [Try.ntmps13, List.size_toArray, List.length_cons, List.length_nil, Nat.reduceAdd, Nat.reduceSub, Array.replicate_succ, Array.replicate_zero, List.push_toArray, List.append_toArray, List.nil_append, List.cons_append]
  gi_wp2
  generalize V.alloc (.cells #[.int .i64 a, .int .i64 s] 23) = W at *
  refine ⟨trivial, ?_⟩
  refine (callsIn_wide.2 (stop_is p l a s top x0 er HSA.out HSE.out _ (HP.out.ext hW))).mono ?_
  rintro e w1 ⟨rfl, hx⟩
  have b4 := (hx.block (lt_of_heap hb4)).trans hb4
  have c0 : w1.cell? ⟨V.heap.size, 0, none⟩ = some (.int .i64 a) := by simp [World.cell?, b4]
  have c1 : w1.cell? ⟨V.heap.size, 1, none⟩ = some (.int .i64 s) := by simp [World.cell?, b4]
  have hlt4 := lt_of_heap b4
  have HXV := Lib.hid (hW.trans hx)
  clear hx hb4 hW b4
  by_cases h0 : er = 0
  rotate_left
  · have hne : (er != 0) = true := by simpa using h0
    have HL0 := Lib.hid (HLA.out.trans (if_neg h0))
    clear h0 HLA
    gi_wp2
    exact ⟨.tuple #[.slice none 0 0, .int .i64 er], (by simp only [results, Try.results13]; go_simp), by rw [HSE.out, HL0.out]; exact ⟨none, 0, rfl, RowAt.none _ _ _, HXV.out⟩⟩
  subst h0
  have HL0 := Lib.hid (HLA.out.trans (if_pos rfl))
  clear HLA
  have hk : wkB a s top = true := by
    have := HSE.out
    cases h : wkB a s top
    · rw [stopE, h] at this; simp at this
    · rfl
  obtain ⟨hm, ht⟩ : mayB a s = true ∧ (a ≤ top ∧ top ≤ a + s) := by simpa [wkB] using hk
  obtain ⟨m1, m2, m3, m4⟩ := may_bd hm
  obtain ⟨t1, t2⟩ := ht
  clear hk hm
  gi_wp2_with (refine ⟨trivial, ?_⟩; gi_at_call 64; refine (callsIn_wide.2 (walk_any _ _ _ _ _)).mono ?_; rintro e w' ⟨rfl, rfl⟩)
  have eC := blk_old (o2 := .cells #[.int .i64 top] 3) (blk_old (o2 := .cells #[.int .i64 a, .int .i64 s] 23) (blk_old (o2 := .cells #[.pointer p] 34) (blk_new w1 #[.slice none 0 0] 24 _ rfl)))
  have e0 := blk_old (o2 := .cells #[.int .i64 top] 3) (blk_old (o2 := .cells #[.int .i64 a, .int .i64 s] 23) (blk_new (w1.alloc (.cells #[.slice none 0 0] 24)) #[.pointer p] 34 (w1.heap.size + 1) (by simp)))
  have e1 := blk_old (o2 := .cells #[.int .i64 top] 3) (blk_new ((w1.alloc (.cells #[.slice none 0 0] 24)).alloc (.cells #[.pointer p] 34)) #[.int .i64 a, .int .i64 s] 23 (w1.heap.size + 1 + 1) (by simp))
  have e2 := blk_new (((w1.alloc (.cells #[.slice none 0 0] 24)).alloc (.cells #[.pointer p] 34)).alloc (.cells #[.int .i64 a, .int .i64 s] 23)) #[.int .i64 top] 3 (w1.heap.size + 1 + 2) (by simp)
  have hx2 : Ext w1 ((((w1.alloc (.cells #[.slice none 0 0] 24)).alloc (.cells #[.pointer p] 34)).alloc (.cells #[.int .i64 a, .int .i64 s] 23)).alloc (.cells #[.int .i64 top] 3)) := ((((Ext.refl w1).alloc _).alloc _).alloc _).alloc _
  generalize (((w1.alloc (.cells #[.slice none 0 0] 24)).alloc (.cells #[.pointer p] 34)).alloc (.cells #[.int .i64 a, .int .i64 s] 23)).alloc (.cells #[.int .i64 top] 3) = w2 at *
  have hV2 : Ext V w2 := HXV.out.trans hx2
  have hvc : V.heap.size < w1.heap.size := hlt4
  have hlC := lt_of_heap eC
  have hl0 := lt_of_heap e0
  have hl1 := lt_of_heap e1
  have hl2 := lt_of_heap e2
  generalize w1.heap.size = C at *
  have hnl : ∀ b, ¬ Led w2 C b := fun b ⟨n, c, h⟩ => by simp [World.cell?, eC] at h
  have HLN : Hid ((stepsA l top a).length ≤ 1099511627777) := Lib.hid (by have := steps_len l top (top - a).toNat a; unfold stepsA; omega)
  clear c0 c1
  refine wpIn_rangeK (gf := 118) (lb := #[.pointer (some ⟨C + 1 + 1, 0, none⟩), .pointer (some ⟨C + 1 + 2, 0, none⟩), .pointer (some ⟨C + 1, 0, none⟩)]) rfl (enters_of Try.func118 (by kernel_rfl) rfl)
    (walk1_stops V.heap.size (C + 1 + 1) (C + 1 + 2) (C + 1) C p l a s top w2 hl1 hl2 hl0 (by simp [World.cell?, e1]) (by simp [World.cell?, e2]) (by simp [World.cell?, e0]) (fun W' hb => HP.out.ext (Below.trans hV2 hb)) (by omega) m1 t1 (by omega) hlC hnl)
    (fun k hk => by rcases hk with rfl | rfl | rfl <;> omega) (by omega) (fun _ => rfl)
    (fun pre W => (∃ v, CollG 3 1 intC w2.heap.size C 24 (placesL pre) W v) ∧ Ext V W ∧ w2.heap.size ≤ W.heap.size) (fun _ _ _ => False)
    (fun s A B h hab => ⟨h.1.imp fun v hv => hv.abI (by omega) hab, Below.trans h.2.1 (Below.mono hab.below (by omega)), Nat.le_trans h.2.2 hab.below.size⟩)
    (fun _ _ _ _ h _ => h)
    ⟨⟨_, eC, Own.nil _ _ _ _ _⟩, hV2, Nat.le_refl _⟩
    (fun pre x a' W => (∃ v, CollG 3 1 intC w2.heap.size C 24 (placesL pre) W v) ∧ Ext V W ∧ ∃ X, w2.heap.size ≤ X ∧ W.heap[X]? = some (.cells #[.int .i64 x.at_, .int .i64 x.h.k, .int .i64 x.h.f, .int .i64 x.h.r, .bool x.h.m, .int .i64 x.h.c, .int .i64 x.e, .bool x.last] 119 (0, 0)) ∧
      a' = { tmps := #[.pointer p, .agg #[.int .i64 a, .int .i64 s], .int .i64 top, undef, .pointer (some ⟨V.heap.size, 0, none⟩), undef, .slice none 0 0, .int .i64 0, .int .i64 x0, .int .i64 0, .pointer (some ⟨C, 0, none⟩), .pointer (some ⟨X, 0, none⟩), .tuple #[.int .i64 x0, .int .i64 0], .pointer p, .agg #[.int .i64 a, .int .i64 s], .int .i64 top, .tuple #[.int .i64 x0, .int .i64 0], .int .i64 x0, .int .i64 0, .int .i64 0, .bool false, undef, .pointer p, .agg #[.int .i64 a, .int .i64 s], .int .i64 top, .func (.func 118) #[] #[.pointer (some ⟨C + 1 + 1, 0, none⟩), .pointer (some ⟨C + 1 + 2, 0, none⟩), .pointer (some ⟨C + 1, 0, none⟩)], .agg #[.int .i64 x.at_, .int .i64 x.h.k, .int .i64 x.h.f, .int .i64 x.h.r, .bool x.h.m, .int .i64 x.h.c, .int .i64 x.e, .bool x.last], undef, undef, undef, undef, undef, undef, undef, undef, undef], defers := [] })
    ?hax ?assign ?body ?done ?stop
  case hax =>
    rintro pre x a' A B ⟨⟨v, hv⟩, hE, X, hX, hbX, rfl⟩ hb hk
    exact ⟨⟨v, hv.keep (by omega) hk⟩, Below.trans hE (Below.mono hb (by omega)), X, hX, hk X _ hbX rfl, rfl⟩
  case assign =>
    rintro lq pre x W K ⟨⟨v, hv⟩, hE, hS⟩ hK
    have hsz := Ext.size hE
    have HV := Lib.hid hv
    have HE := Lib.hid hE
    clear hv hE
    gi_wp2
    exact hK _ _ ⟨⟨v, HV.out.ext ((Ext.refl W).alloc _)⟩, HE.out.alloc _, W.heap.size, hS, World.alloc_heap_new _ _, rfl⟩ ((KeepsOthers.alloc _ _).from _) (KpX.ext ((Ext.refl W).alloc _) (by omega) (by omega))
  case body =>
    rintro lq pre x a' W ⟨⟨v, hv⟩, hE, X, hX, hbX, rfl⟩ hgd
    have hlen : (placesL pre).length ≤ 1099511627777 := by
      have h1 := hgd.length_le
      have h2 := places_len pre
      have h3 := HLN.out
      simp only [List.length_append] at h1
      omega
    have hltX := lt_of_heap hbX
    have hsz := Ext.size hE
    have HV := Lib.hid hv
    have HE := Lib.hid hE
    obtain ⟨xat, xh, xe, xl⟩ := x
    have g3 : W.cell? ⟨X, 7, none⟩ = some (.bool xl) := by simp [World.cell?, hbX]
    have g0 : W.cell? ⟨X, 0, none⟩ = some (.int .i64 xat) := by simp [World.cell?, hbX]
    obtain ⟨c1, c2⟩ := hv.cell
    clear hv hE hbX hgd
    cases xl
    · have HPG := Lib.hid (places_go pre ⟨xat, xh, xe, false⟩ rfl)
      gi_wp2_with (gi_at_builtin; refine wpListIn_app_lit rfl (.tmp 30) (.tmp 33) 24 rfl intInfo intCells rfl (by exact HV.out.own) [xat] 1 _ rfl ((placesL pre).length + 1) 1 (by simp) rfl W.heap.size rfl rfl (by omega) (by simp [maxLen]; omega) (by omega) ?_; intro A1 cap1 w3 hown1 hgr1 hat1; obtain ⟨⟨d1, d2⟩, hc2, hk2, hf2, hot⟩ := CollG.app (HV.out.ext ((Ext.refl W).alloc _)) (by omega) (nV := V.heap.size) (by omega) (by simp; omega) (H := W.heap.size + 1) (by simp) hown1 hgr1 hat1; have HC2 := Lib.hid hc2; have HK2 := Lib.hid hk2; have HF2 := Lib.hid hf2; have HOT := Lib.hid hot; clear hown1 hgr1 hat1 hc2 hk2 hf2 hot)
      have hk0 : Kp V.heap.size w2.heap.size C W (W.alloc (.cells #[.int .i64 xat] 3)) := Kp.ext ((Below.refl _ W).alloc (Nat.le_refl _) _) (by omega) (by omega)
      refine ⟨KeepsFrom.trans ((KeepsOthers.alloc _ _).from _) HF2.out, ⟨hk0.trans HK2.out, fun k o hk ho => ?_⟩, ⟨_, by rw [HPG.out]; exact HC2.out⟩, Below.trans HE.out (hk0.trans HK2.out).below, by have := (hk0.trans HK2.out).below.size; omega⟩
      have hkl : k < w2.heap.size ∧ k ≠ C := by rcases hk with rfl | rfl | rfl <;> omega
      have h1 : (W.alloc (.cells #[.int .i64 xat] 3)).heap[k]? = some o := blk_old ho
      exact (HOT.out k (lt_of_heap h1) hkl.2 (fun e => by have := (World.ownsRow.lt HV.out.own k e).1; omega)).trans h1
    · have HPG := Lib.hid (places_last pre ⟨xat, xh, xe, true⟩ rfl)
      gi_wp2
      exact ⟨keeps_ext (Ext.refl _), KpX.ext (Ext.refl _) (by omega) (by omega), ⟨v, by rw [HPG.out]; exact HV.out⟩, HE.out, by omega⟩
  case done =>
    rintro D ys W hD rfl ⟨⟨v, hv⟩, hE, hS⟩ hK
    obtain ⟨c1, c2⟩ := hv.cell
    have HV := Lib.hid hv
    have HE := Lib.hid hE
    clear hv hE
    gi_wp2
    refine ⟨by simp, .inl ⟨_, _, rfl, run_takeDeferred hK, ?_⟩⟩
    have hab : AbI w2.heap.size C W (W.putObj D (.deferred none)) := AbI.putObj hD hK rfl
    have hcf := HV.out.abI (by omega) hab
    have hEE := Below.trans HE.out (Below.mono hab.below (by omega))
    obtain ⟨A1, cap1, rfl, hrow, -⟩ := hcf.own.form intCells (by decide)
    exact ⟨.tuple #[.slice A1 (placesL (stepsA l top a)).length cap1, .int .i64 0], (by simp only [results, Try.results13]; go_simp), by rw [HL0.out, HSE.out]; exact ⟨A1, cap1, rfl, hrow, hEE⟩⟩
  case stop =>
    rintro D c pre W _ _ h _
    exact h.elim
end Go.Proofs.Ytkcpfimhbogdcaa
