/- maslinlaw32.ManifestDone, walked. maslinlaw32.ManifestDone, over its arguments as they came in. -/
import Derived.Test.YtdmbadkpendfhaaGreatDoorManE
import Derived.Test.YtdmbadkpendfhaaGreatDoorManD
namespace Go.Proofs.YtdmbadkpendfhaaGreatDoor.Man
open Go.RowKit Go.Maps Wal Fil
/-- The statement's two steps, as they lie. -/
def twoSteps (job : T) (va vb : Value) : Array Value := #[.int .i64 0, .int .i64 0, .int .u64 0, .string (bs job), .slice none 0 0, va, .string { data := #[] }, .int .i64 0, .int .i64 0, .int .u64 0, .string { data := #[] }, .slice none 0 0, vb, .string { data := #[] }]
theorem two_steps {w : World} {va vb : Value} {a b : List T} (job : T) (ha : TextsIn w va a) (hb : TextsIn w vb b) :
    StpsIn (w.alloc (.cells (twoSteps job va vb) 28)) (some ⟨w.heap.size, 0, none⟩) [⟨0, 0, 0, job, [], a, []⟩, ⟨0, 0, 0, [], [], b, []⟩] := by
  have hbel := below_alloc w (.cells (twoSteps job va vb) 28)
  have hc : ∀ k i, (w.alloc (.cells (twoSteps job va vb) 28)).cell? (((⟨w.heap.size, 0, none⟩ : Addr).add k).add i) = (twoSteps job va vb)[k + i]? := fun k i => by
    rw [Addr.add_add, add_plain]
    exact cell_of_row _ _ _ _ _ _ (heap_alloc_new w _)
  have hnil : TextsIn (w.alloc (.cells (twoSteps job va vb) 28)) (.slice none 0 0) [] := ⟨⟨none, 0, rfl, fun i hi => by simp at hi, fun _ => rfl⟩, by simp, by simp⟩
  intro i hi
  refine ⟨_, rfl, ?_⟩
  rcases i with _ | _ | i
  · constructor
    · rw [hc]; rfl
    · rw [hc]; rfl
    · rw [hc]; rfl
    · rw [hc]; rfl
    · exact ⟨_, by rw [hc]; rfl, hnil⟩
    · exact ⟨_, by rw [hc]; rfl, ha.below hbel⟩
    · rw [hc]; rfl
  · constructor
    · rw [hc]; rfl
    · rw [hc]; rfl
    · rw [hc]; rfl
    · rw [hc]; rfl
    · exact ⟨_, by rw [hc]; rfl, hnil⟩
    · exact ⟨_, by rw [hc]; rfl, hb.below hbel⟩
    · rw [hc]; rfl
  · simp at hi; omega
set_option maxRecDepth 100000 in
set_option maxHeartbeats 1500000 in
theorem manDone_any (w : World) (v : Nat) (hv : v < 18446744073709551616) (one two : T) (h1 : one.length ≤ reachBytes) (h2 : two.length ≤ reachBytes) {va vb : Value} {a b : List T} (ha : TextsIn w va a) (hb : TextsIn w vb b) :
    Calls Tryz.prog 3 #[.int .u64 (v : Int), .string (bs one), .string (bs two), va, vb] w fun e w' => e = .returned (.bool true) ∧ Below w.heap.size w w' := by
  have hst := two_steps (one ++ two) ha hb
  unfold twoSteps at hst
  obtain ⟨⟨aq, ac, rfl, hat, haq⟩, hal, hae⟩ := ha
  obtain ⟨⟨bq, bc, rfl, hbt, hbq⟩, hbl, hbe⟩ := hb
  have hheavy := heavy32_any 200 (some ⟨w.heap.size, 0, none⟩) 2 _ _ hst (by simp) (by
    intro x hx
    simp only [List.mem_cons, List.not_mem_nil, or_false] at hx
    rcases hx with rfl | rfl
    · refine ⟨by simp, ?_, hae⟩
      show (one ++ two).length ≤ _
      rw [List.length_append]; omega
    · exact ⟨by simp, by simp, hbe⟩)
  have hcat : one.length + two.length ≤ 300000000000000 := by unfold reachBytes at h1 h2; omega
  have HH := Lib.hid hheavy
  have HA := Lib.hid hat; have HB := Lib.hid hbt; have HAQ := Lib.hid haq; have HBQ := Lib.hid hbq
  clear hheavy hst hat hbt haq hbq hae hbe
  go_enter Tryz.func3, Tryz.ntmps3
  go_wp2_with fail
  refine HH.out.mono ?_
  rintro e w1 ⟨hv1, rfl, hb1, hlight⟩
  have HB1 := Lib.hid ((below_alloc w _).trans (hb1.mono (below_alloc w _).size))
  clear hb1 HH
  cases hv1 with
  | true =>
    go_wp2_with fail
    refine (alive32_any _).mono ?_
    rintro e w2 ⟨rfl, hb2⟩
    have HB2 := Lib.hid (HB1.out.trans (hb2.mono HB1.out.size))
    clear hb2
    go_wp2_with fail
    go_ret
    exact ⟨rfl, HB2.out⟩
  | false =>
    obtain ⟨⟨hcost, hrows⟩, _⟩ := hlight rfl
    clear hlight
    by_cases heq : one = two
    · subst heq
      go_wp2_with fail
      refine (alive32_any _).mono ?_
      rintro e w2 ⟨rfl, hb2⟩
      have HB2 := Lib.hid (HB1.out.trans (hb2.mono HB1.out.size))
      clear hb2
      go_wp2_with fail
      go_ret
      exact ⟨rfl, HB2.out⟩
    have heqb : (one == two) = false := by simpa using heq
    by_cases hmax : v = 18446744073709551615
    · have hmaxi : (v : Int) = 18446744073709551615 := by omega
      go_wp2_with fail
      refine (alive32_any _).mono ?_
      rintro e w2 ⟨rfl, hb2⟩
      have HB2 := Lib.hid (HB1.out.trans (hb2.mono HB1.out.size))
      clear hb2
      go_wp2_with fail
      go_ret
      exact ⟨rfl, HB2.out⟩
    have hmaxi : ¬ (v : Int) = 18446744073709551615 := by omega
    have hcst : (one ++ two).length + tkCost a + tkCost b ≤ 16384 := by
      have : costs [⟨0, 0, 0, one ++ two, [], a, []⟩, ⟨0, 0, 0, [], [], b, []⟩] = (one ++ two).length + tkCost a + tkCost b := by
        simp [costs, Stp.cost, otCost]
      omega
    have hra := (hrows ⟨0, 0, 0, one ++ two, [], a, []⟩ (by simp)).1
    have hrb := (hrows ⟨0, 0, 0, [], [], b, []⟩ (by simp)).1
    have hae : ∀ t ∈ a, t.length ≤ 500000 := fun t ht => by have := tk_mem a t ht; omega
    have hbe : ∀ t ∈ b, t.length ≤ 500000 := fun t ht => by have := tk_mem b t ht; omega
    have hra : a.length ≤ 1100 := hra
    have hrb : b.length ≤ 1100 := hrb
    clear hcost hrows hcst
    have HAE := Lib.hid hae; have HBE := Lib.hid hbe
    clear hae hbe
    go_wp2_with fail
    refine (made32_any 200 (by omega) (by omega) _).mono ?_
    rintro e w2 ⟨bk, y, rfl, h2⟩
    have H2 := Lib.hid (MyK.of h2)
    have HW2 := Lib.hid (HB1.out.trans (h2.1.mono HB1.out.size))
    clear h2
    -- MAIN
    go_wp2_with fail
    obtain ⟨c1l, hc1l⟩ : ∃ x, decide (one.length ≤ 64) = x := ⟨_, rfl⟩
    cases c1l with
    | false =>
      have hol : 64 < one.length := by simpa using hc1l
      have hp := myk_begin H2.out (by omega) v hv one
      rw [begin_long hol] at hp
      have holi : (64 : Int) < (one.length : Int) := by omega
      refine hp.mono ?_
      clear hp
      rintro e w3 ⟨s3, rfl, r3, h3, _⟩
      obtain ⟨q3, cap3, rfl⟩ := slice_len r3
      have HW3 := Lib.hid (HB1.out.trans ((h3.new (.cells #[.int .u64 0, .string (bs []), .slice q3 0 cap3] 34)).bel.mono HB1.out.size))
      clear r3 h3
      go_wp2_with fail
      refine (alive32_any _).mono ?_
      rintro e wz ⟨rfl, hbz⟩
      have HBZ := Lib.hid (HW3.out.trans (hbz.mono HW3.out.size))
      clear hbz
      go_wp2_with fail
      go_ret
      exact ⟨rfl, HBZ.out⟩
    | true =>
      have hol : one.length ≤ 64 := by simpa using hc1l
      clear hc1l
      obtain ⟨f1, f2, f3⟩ := begin_first hv hol
      obtain ⟨A1, hA1⟩ : ∃ A1, (beginT 200 [] v one).2.2 = A1 := ⟨_, rfl⟩
      rw [hA1] at f3
      have hbt1 : beginT 200 [] v one = ((one, v, []), 0, A1) := Prod.ext f1 (Prod.ext f2 hA1)
      have hp := myk_begin H2.out (by omega) v hv one
      rw [hbt1] at hp
      refine hp.mono ?_
      clear hp
      rintro e w3 ⟨s3, rfl, r3, h3, _⟩
      obtain ⟨q3, cap3, rfl⟩ := slice_len r3
      have H3 := Lib.hid (h3.new (.cells #[.int .u64 (v : Int), .string (bs one), .slice q3 0 cap3] 34))
      clear r3 h3 f1 f2 hA1 hbt1 H2
      obtain ⟨d1, d2, d3⟩ := two_dones f3 a b
      obtain ⟨g, hg⟩ : ∃ g, (doneT 200 A1 a).1 = g := ⟨_, rfl⟩
      obtain ⟨A2, hA2⟩ : ∃ A2, (doneT 200 A1 a).2 = A2 := ⟨_, rfl⟩
      obtain ⟨h, hh⟩ : ∃ h, (doneT 200 A2 b).1 = h := ⟨_, rfl⟩
      obtain ⟨A3, hA3⟩ : ∃ A3, (doneT 200 A2 b).2 = A3 := ⟨_, rfl⟩
      have P1 := Lib.hid (show doneT 200 A1 a = (g, A2) from Prod.ext hg hA2)
      have P2 := Lib.hid (show doneT 200 A2 b = (h, A3) from Prod.ext hh hA3)
      rw [hA2, hg, hh, hA3] at d3
      rw [hg] at d1
      rw [hA2, hh] at d2
      clear hg hA2 hh hA3 f3
      have D3 := Lib.hid d3
      have D1 := Lib.hid d1
      have D2 := Lib.hid d2
      clear d1 d2 d3
      go_wp2_with fail
      have hp := myk_done (cap := ac) (k := a) H3.out (by omega) (HA.out.below (HB1.out.trans (H3.out.bel.mono HB1.out.size))) HAQ.out (by omega) HAE.out
      rw [P1.out] at hp
      refine hp.mono ?_
      clear hp
      rintro e w4 ⟨rfl, h4, _⟩
      have H4 := Lib.hid h4
      clear h4 H3
      go_wp2_with fail
      have hp := myk_done (cap := bc) (k := b) H4.out (by omega) (HB.out.below (HB1.out.trans (H4.out.bel.mono HB1.out.size))) HBQ.out (by omega) HBE.out
      rw [P2.out] at hp
      refine hp.mono ?_
      clear hp
      rintro e w5 ⟨rfl, h5, _⟩
      have H5 := Lib.hid h5
      have HW5 := Lib.hid (HB1.out.trans (h5.bel.mono HB1.out.size))
      clear h5 H4
      have hcases : (g = 0 ∧ h = 0) ∨ g = 4 ∨ g = 5 ∨ (g = 0 ∧ h = 4) ∨ (g = 0 ∧ h = 5) := by have := D1.out; have := D2.out; omega
      rcases hcases with ⟨rfl, rfl⟩ | rfl | rfl | ⟨rfl, rfl⟩ | ⟨rfl, rfl⟩
      rotate_left
      · go_wp2_with fail
        refine (alive32_any _).mono ?_
        rintro e wz ⟨rfl, hbz⟩
        have HBZ := Lib.hid (HW5.out.trans (hbz.mono HW5.out.size))
        clear hbz
        go_wp2_with fail
        go_ret
        exact ⟨rfl, HBZ.out⟩
      · go_wp2_with fail
        refine (alive32_any _).mono ?_
        rintro e wz ⟨rfl, hbz⟩
        have HBZ := Lib.hid (HW5.out.trans (hbz.mono HW5.out.size))
        clear hbz
        go_wp2_with fail
        go_ret
        exact ⟨rfl, HBZ.out⟩
      · go_wp2_with fail
        refine (alive32_any _).mono ?_
        rintro e wz ⟨rfl, hbz⟩
        have HBZ := Lib.hid (HW5.out.trans (hbz.mono HW5.out.size))
        clear hbz
        go_wp2_with fail
        go_ret
        exact ⟨rfl, HBZ.out⟩
      · go_wp2_with fail
        refine (alive32_any _).mono ?_
        rintro e wz ⟨rfl, hbz⟩
        have HBZ := Lib.hid (HW5.out.trans (hbz.mono HW5.out.size))
        clear hbz
        go_wp2_with fail
        go_ret
        exact ⟨rfl, HBZ.out⟩
      have hrun := D3.out rfl rfl
      clear D1 D2 D3 P1 P2
      obtain ⟨L, hL⟩ : ∃ L, risingR (a ++ b) = L := ⟨_, rfl⟩
      rw [hL] at hrun
      have HL := Lib.hid hL
      clear hL
      have P4 := Lib.hid hrun.same
      obtain ⟨u8, x8, j, A4, hO, hj, jb, l', hrun4⟩ := other_begin hrun heq
      have PO := Lib.hid hO
      obtain ⟨A5, A6, p5, p6, p7, p8⟩ := hrun4.after (job := one) hol (by omega)
      have P5 := Lib.hid p5; have P6 := Lib.hid p6; have P7 := Lib.hid p7; have P8 := Lib.hid p8
      have hLl : L.length ≤ 1000 := by obtain ⟨_, _, _, h, _⟩ := hrun; exact h
      clear hrun hO hrun4 p5 p6 p7 p8
      dsimp only
      go_wp2_with fail
      have hp := myk_begin H5.out (by omega) v hv one
      rw [P4.out] at hp
      refine hp.mono ?_
      clear hp
      rintro e w6 ⟨s6, rfl, r6, h6, _⟩
      obtain ⟨q6, cap6, rfl⟩ := slice_len r6
      have H6 := Lib.hid (h6.new (.cells #[.int .u64 (v : Int), .string (bs one), .slice q6 L.length cap6] 34))
      have HV6 := Lib.hid (RowAt.alloc' (show RowAt w6 0 (.slice q6 L.length cap6) L from r6) (.cells #[.int .u64 (v : Int), .string (bs one), .slice q6 L.length cap6] 34))
      clear r6 h6 H5
      have hb6 := HB1.out.trans (H6.out.bel.mono HB1.out.size)
      have HTA := Lib.hid (HA.out.below hb6)
      have HTB := Lib.hid (HB.out.below hb6)
      have HW6 := Lib.hid hb6
      clear hb6
      dsimp only
      go_wp2_with (first
        | (at_builtin; refine wpList_append_texts rfl _ _ rfl (w6.alloc (.cells #[.int .u64 (v : Int), .string (bs one), .slice q6 L.length cap6] 34)).heap.size (.slice none 0 0) [] a rfl (by unfold RowAt; rw [strCells_enc]; exact World.ownsRow_nil _ _ _ _) aq ac rfl HTA.out HAQ.out (by simp; omega) (Nat.le_refl _) ?_; intro v7 w7 ho7 hg7 _; rw [List.nil_append] at ho7; obtain ⟨q7, cap7, rfl⟩ := slice_len ho7; have HO7 := Lib.hid ho7; have HB7 := Lib.hid ((Below.refl _ _).grown hg7 (Nat.le_refl _) (fun j e => by cases e)); clear ho7 hg7)
        | (at_builtin; refine wpList_append_texts rfl _ _ rfl (w6.alloc (.cells #[.int .u64 (v : Int), .string (bs one), .slice q6 L.length cap6] 34)).heap.size (.slice q7 a.length cap7) a b rfl HO7.out bq bc rfl (HTB.out.below HB7.out) HBQ.out (by omega) HB7.out.size ?_; intro v8 w8 ho8 hg8 _; obtain ⟨q8, cap8, rfl⟩ := slice_len ho8; have HO8 := Lib.hid ho8; have HB8 := Lib.hid (HB7.out.grown hg8 HB7.out.size (fun j hj => row_low HO7.out hj)); clear ho8 hg8))
      have hrs := rising26_any (cap := cap8) (textsAt_of_row HO8.out) (by rw [List.length_append]; omega)
      rw [List.length_append, HL.out] at hrs
      refine hrs.mono ?_
      clear hrs
      rintro e w9 ⟨v9, rfl, ho9, hb9⟩
      obtain ⟨q9, cap9, rfl⟩ := slice_len ho9
      have HB9 := Lib.hid (HB8.out.trans (hb9.mono HB8.out.size))
      have H9 := Lib.hid (H6.out.step HB9.out)
      have HV9 := Lib.hid (row_below HV6.out HB9.out)
      have HN9 := Lib.hid ho9
      clear ho9 hb9 H6 HV6 HO7 HO8 HTA HTB
      go_wp2_with fail
      have hp := myk_begin H9.out (by omega) v hv two
      rw [PO.out] at hp
      refine hp.mono ?_
      clear hp
      rintro e wa ⟨sa, rfl, ra, ha, ka⟩
      obtain ⟨qa, capa, rfl⟩ := slice_len ra
      have HC := Lib.hid (ha.new (.cells #[.int .u64 (x8 : Int), .string (bs u8), .slice qa 0 capa] 34))
      have HVC := Lib.hid (RowAt.alloc' (ka _ _ _ HV9.out) (.cells #[.int .u64 (x8 : Int), .string (bs u8), .slice qa 0 capa] 34))
      have HNC := Lib.hid (RowAt.alloc' (ka _ _ _ HN9.out) (.cells #[.int .u64 (x8 : Int), .string (bs u8), .slice qa 0 capa] 34))
      clear ra ha ka H9 HV9 HN9
      have m1 := HC.out.cell (k := w3.heap.size) (cs := #[.int .u64 (v : Int), .string (bs one), .slice q3 0 cap3]) (t := 34) (by simp) 2
      have m2 := HC.out.cell (k := w6.heap.size) (cs := #[.int .u64 (v : Int), .string (bs one), .slice q6 L.length cap6]) (t := 34) (by simp) 2
      dsimp only
      rcases hj with ⟨rfl, hj2⟩ | ⟨rfl, hj2⟩
      · have hj2i : (two.length : Int) ≤ 64 := by omega
        go_wp2_with fail
        have hsm := rsame_any L L q6 q9 cap6 cap9 _ (textsAt_of_row HVC.out) (textsAt_of_row HNC.out) (by unfold maxLen; omega) (by unfold maxLen; omega)
        refine hsm.mono ?_
        rintro e wb ⟨rfl, hbb⟩
        have H8 := Lib.hid (HC.out.step hbb)
        clear hsm hbb HC HVC HNC m1 m2
        have m3 := H8.out.cell (k := wa.heap.size) (cs := #[.int .u64 (x8 : Int), .string (bs u8), .slice qa 0 capa]) (t := 34) (by simp) 2
        rw [show decide (L = L) = true by simp]
        go_wp2_with fail
        have hp := myk_publish (q := none) (cap := 0) (outs := []) H8.out (by omega) (fun i hi => by simp at hi) (by simp) (by simp) v hv one (fun _ => by simp)
        rw [P5.out] at hp
        refine hp.mono ?_
        clear hp
        rintro e w9 ⟨rfl, h9, _⟩
        have H9 := Lib.hid h9
        clear h9 H8
        go_wp2_with fail
        have hp := myk_now H9.out
        rw [P6.out] at hp
        refine hp.mono ?_
        clear hp
        rintro e w10 ⟨hb10, rfl⟩
        have H10 := Lib.hid ((H9.out.step hb10).new (.cells #[.int .u64 0, .string (bs []), .slice none 0 0] 34))
        clear hb10 H9
        go_wp2_with fail
        have hp := myk_begin H10.out (by omega) v hv one
        rw [P7.out] at hp
        refine hp.mono ?_
        clear hp
        rintro e w11 ⟨s11, rfl, r11, h11, _⟩
        obtain ⟨q11, cap11, rfl⟩ := slice_len r11
        have H11 := Lib.hid (h11.new (.cells #[.int .u64 0, .string (bs []), .slice q11 0 cap11] 34))
        clear r11 h11 H10
        go_wp2_with fail
        have hp := myk_begin H11.out (by omega) (v + 1) (by omega) one
        rw [P8.out] at hp
        refine hp.mono ?_
        clear hp
        rintro e w12 ⟨s12, rfl, r12, h12, _⟩
        obtain ⟨q12, cap12, rfl⟩ := slice_len r12
        have H12 := Lib.hid (h12.new (.cells #[.int .u64 ((v + 1 : Nat) : Int), .string (bs one), .slice q12 0 cap12] 34)).bel
        clear r12 h12 H11
        have HW12 := Lib.hid (HB1.out.trans (H12.out.mono HB1.out.size))
        clear H12
        go_wp2_with fail
        refine (alive32_any _).mono ?_
        rintro e wz ⟨rfl, hbz⟩
        have HBZ := Lib.hid (HW12.out.trans (hbz.mono HW12.out.size))
        clear hbz
        go_wp2_with fail
        go_ret
        exact ⟨rfl, HBZ.out⟩
      · have hj2i : ¬ (two.length : Int) ≤ 64 := by omega
        go_wp2_with fail
        have hsm := rsame_any L L q6 q9 cap6 cap9 _ (textsAt_of_row HVC.out) (textsAt_of_row HNC.out) (by unfold maxLen; omega) (by unfold maxLen; omega)
        refine hsm.mono ?_
        rintro e wb ⟨rfl, hbb⟩
        have H8 := Lib.hid (HC.out.step hbb)
        clear hsm hbb HC HVC HNC m1 m2
        have m3 := H8.out.cell (k := wa.heap.size) (cs := #[.int .u64 (x8 : Int), .string (bs u8), .slice qa 0 capa]) (t := 34) (by simp) 2
        rw [show decide (L = L) = true by simp]
        go_wp2_with fail
        have hp := myk_publish (q := none) (cap := 0) (outs := []) H8.out (by omega) (fun i hi => by simp at hi) (by simp) (by simp) v hv one (fun _ => by simp)
        rw [P5.out] at hp
        refine hp.mono ?_
        clear hp
        rintro e w9 ⟨rfl, h9, _⟩
        have H9 := Lib.hid h9
        clear h9 H8
        go_wp2_with fail
        have hp := myk_now H9.out
        rw [P6.out] at hp
        refine hp.mono ?_
        clear hp
        rintro e w10 ⟨hb10, rfl⟩
        have H10 := Lib.hid ((H9.out.step hb10).new (.cells #[.int .u64 0, .string (bs []), .slice none 0 0] 34))
        clear hb10 H9
        go_wp2_with fail
        have hp := myk_begin H10.out (by omega) v hv one
        rw [P7.out] at hp
        refine hp.mono ?_
        clear hp
        rintro e w11 ⟨s11, rfl, r11, h11, _⟩
        obtain ⟨q11, cap11, rfl⟩ := slice_len r11
        have H11 := Lib.hid (h11.new (.cells #[.int .u64 0, .string (bs []), .slice q11 0 cap11] 34))
        clear r11 h11 H10
        go_wp2_with fail
        have hp := myk_begin H11.out (by omega) (v + 1) (by omega) one
        rw [P8.out] at hp
        refine hp.mono ?_
        clear hp
        rintro e w12 ⟨s12, rfl, r12, h12, _⟩
        obtain ⟨q12, cap12, rfl⟩ := slice_len r12
        have H12 := Lib.hid (h12.new (.cells #[.int .u64 ((v + 1 : Nat) : Int), .string (bs one), .slice q12 0 cap12] 34)).bel
        clear r12 h12 H11
        have HW12 := Lib.hid (HB1.out.trans (H12.out.mono HB1.out.size))
        clear H12
        go_wp2_with fail
        refine (alive32_any _).mono ?_
        rintro e wz ⟨rfl, hbz⟩
        have HBZ := Lib.hid (HW12.out.trans (hbz.mono HW12.out.size))
        clear hbz
        go_wp2_with fail
        go_ret
        exact ⟨rfl, HBZ.out⟩
end Go.Proofs.YtdmbadkpendfhaaGreatDoor.Man

namespace Go.Proofs.YtdmbadkpendfhaaGreatDoor
open Go.RowKit
set_option maxRecDepth 100000 in
theorem manifestDone_any {H : Type} {enc : TypeId × Value → H} {base3 base4 : Nat} (W : World) (v : Int) (hv : (Lit.int .u64 v).wf = true) (one : List UInt8) (h1 : one.length ≤ reachBytes) (two : List UInt8) (h2 : two.length ≤ reachBytes) (v3 : Value) (d3 : DataW H) (p3 : List MemPlace)
    (ho3 : Value.okWide Tryz.prog W .any base3 23 v3) (h3 : DataW.Trod enc Tryz.prog W 0 (fun _ => true) true 23 v3 d3 p3) (hz3 : ∀ n ∈ DataW.weights Tryz.prog 23 d3, (decide (n ≤ reachBytes)) = true)
    (v4 : Value) (d4 : DataW H) (p4 : List MemPlace) (ho4 : Value.okWide Tryz.prog W .any base4 23 v4) (h4 : DataW.Trod enc Tryz.prog W 0 (fun _ => true) true 23 v4 d4 p4) (hz4 : ∀ n ∈ DataW.weights Tryz.prog 23 d4, (decide (n ≤ reachBytes)) = true) :
    Calls Tryz.prog 3 #[.int .u64 v, .string (bs one), .string (bs two), v3, v4] W fun e w' => e = .returned (.bool true) ∧ Below W.heap.size W w' := by
  obtain ⟨a, ha⟩ := texts_of_trod ho3 h3 hz3
  obtain ⟨b, hb⟩ := texts_of_trod ho4 h4 hz4
  have hr : 0 ≤ v ∧ v ≤ 18446744073709551615 := by simp [Lit.wf, IntKind.min, IntKind.max, IntKind.signed, IntKind.bits] at hv; omega
  obtain ⟨n, rfl⟩ := Int.eq_ofNat_of_zero_le hr.1
  exact Man.manDone_any W n (by omega) one two h1 h2 ha hb
end Go.Proofs.YtdmbadkpendfhaaGreatDoor
