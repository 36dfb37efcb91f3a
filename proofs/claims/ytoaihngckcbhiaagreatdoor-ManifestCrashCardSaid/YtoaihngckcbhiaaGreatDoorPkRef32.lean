/- Ref32 -/
import Derived.Test.YtoaihngckcbhiaaGreatDoorPkRefFil
import Derived.Test.YtoaihngckcbhiaaGreatDoorPkRefSha
import Derived.Test.YtoaihngckcbhiaaGreatDoorPkRefOct
import Derived.Test.YtoaihngckcbhiaaGreatDoorPkManD
namespace Go.Proofs.YtoaihngckcbhiaaGreatDoor.Man
open Go.RowKit Go.Maps Wal Fil
set_option maxRecDepth 100000 in
theorem rout_any (k : Nat) (hk : k < 100) (w : World) : Calls Tryz.prog 78 #[.int .i64 (k : Int)] w fun e w' => e = .returned (.string (bs (outT k))) ∧ w' = w := by
  have hl : (Lib.decDigits k).length ≤ 20 := by
    have : ∀ j : Fin 100, (Lib.decDigits j.1).length ≤ 20 := by decide +kernel
    exact this ⟨k, hk⟩
  unfold outT
  go_enter Tryz.func78, Tryz.ntmps78
  go_wp2_with fail
  refine (itoa_any k hk _).mono ?_
  rintro e w1 ⟨rfl, rfl⟩
  go_wp2_with fail
  go_ret
  exact ⟨rfl, rfl⟩
set_option maxRecDepth 100000 in
set_option maxHeartbeats 1000000 in
theorem rsums_any {w : World} {q : Option Addr} {cap : Nat} {l : List T} (h : TextsAt w q l) (hl : l.length ≤ 100000) (hs : ∀ s ∈ l, s.length ≤ 1000000) :
    Calls Tryz.prog 84 #[.slice q l.length cap] w fun e w' => ∃ v, e = .returned v ∧ RowAt w' w.heap.size v (l.map Sha.shaS) ∧ Below w.heap.size w w' := by
  obtain ⟨i0, hi0, hz0, hz1, hz2⟩ := info_parts str_info
  have HL := Lib.hid h; have HS := Lib.hid hs
  clear h hs
  go_enter Tryz.func84, Tryz.ntmps84
  go_wp2_with fail
  go_loopw [3, 4] (fun sv i wr => ∃ (k : Nat) (o : List T), k ≤ l.length ∧ o.length = k ∧ o = (l.take k).map Sha.shaS ∧ i = .int .i64 (k : Int) ∧ wr.ownsRow w.heap.size 9 1 sv k (strCells o) ∧ Below w.heap.size w wr)
    (fun _ i _ => l.length - (intOf i).toNat)
  case atStart => exact ⟨0, [], Nat.zero_le _, rfl, by simp, rfl, by rw [strCells_nil]; exact World.ownsRow_nil _ _ _ _, Below.refl _ _⟩
  case round =>
    obtain ⟨k, o, hk, hok, ho, rfl, hown, hb⟩ := hrel
    obtain ⟨qs, caps, rfl⟩ := slice_len hown
    have HB := Lib.hid hb; have HO := Lib.hid ho; have HK := Lib.hid hok; have HOW := Lib.hid hown
    clear ho hok hown
    by_cases hlt : k < l.length
    · obtain ⟨qa, hq1, hq2⟩ := (textsAt_below HL.out hb).index cap k hlt
      obtain ⟨X, hX⟩ : ∃ X, l[k] = X := ⟨_, rfl⟩
      rw [hX] at hq2
      have hXl : X.length ≤ 1000000 := HS.out X (hX ▸ List.getElem_mem hlt)
      have HX := Lib.hid hX
      clear hb hX
      go_wp2_with fail
      refine (rsha_any X (by omega) _).mono ?_
      rintro e w4 ⟨rfl, hb4⟩
      have HB4 := Lib.hid (HB.out.trans (hb4.mono HB.out.size))
      have HO4 := Lib.hid (row_below HOW.out hb4)
      have hs4 := HB4.out.size
      clear hb4
      go_wp2_with (at_builtin; refine wpList_append_own_at _ rfl _ _ 30 rfl w.heap.size 9 i0 _ 1 16 Tryz.underlying30 hi0 hz0 hz1 hz2 rfl (by decide) _ _ _ rfl (HO4.out.alloc _) ⟨w4.heap.size, 0, none⟩ 1 1 [.string (bs (Sha.shaS X))] rfl rfl (cell_one_new _ _ _) (by simp [Value.oneCell']) (by unfold maxLen; omega) (by omega) (by simp; omega) ?_; intro v' w8 hown' hgrow _ hat; obtain ⟨g', cap', rfl⟩ := ownsRow_succ hown'; have HOW8 := Lib.hid hown'; have HGR := Lib.hid hgrow; clear hown' hgrow hat)
      go_roundw
      case rel =>
        refine ⟨k + 1, o ++ [Sha.shaS X], by omega, by rw [List.length_append, HK.out]; rfl, ?_, by go_num, ?_, ?_⟩
        · rw [List.take_succ_eq_append_getElem hlt, List.map_append, ← HO.out, HX.out]; rfl
        · rw [strCells_snoc]; exact HOW8.out
        · exact (HB4.out.alloc HB4.out.size _).grown HGR.out (by rw [World.size_alloc]; omega) (fun j hj => row_low HO4.out hj)
      case measure => simp [intOf]; omega
    · obtain rfl : k = l.length := by omega
      go_wp2_with fail
      go_ret
      refine ⟨_, rfl, ?_, HB.out⟩
      have e := HO.out
      rw [List.take_length] at e
      have h1 := HOW.out
      unfold RowAt
      rw [← e, HK.out]
      exact h1
def RPackPost (w : World) (r : T × Int) (e : Ending) (w' : World) : Prop :=
  Below w.heap.size w w' ∧ ∃ x, e = .returned (.tuple #[.string (bs x), .bool (decide (r.2 = 0))]) ∧ (r.2 = 0 → x = r.1)
set_option maxRecDepth 100000 in
set_option maxHeartbeats 2000000 in
theorem rpack_any (v : Nat) (job : T) (l : List T) (a : Option Addr) (cap : Nat) (w : World) (hv : v < 18446744073709551616) (hj : job.length ≤ 100000000) (hl : TextsAt w a l) (hlen : l.length ≤ 1000000) (hsum : rowLen l ≤ 1000000000) :
    Calls Tryz.prog 83 #[.int .u64 (v : Int), .string (bs job), .slice a l.length cap] w fun e w' => RPackPost w (packT v job l) e w' := by
  have HL := Lib.hid hl
  have HROW := Lib.hid (fun (W : World) (hW : Below w.heap.size w W) => rrow_any l a cap W (hl.below hW) (by unfold maxLen; omega) (by omega))
  clear hl
  obtain ⟨R, hR⟩ : ∃ R, (rowV l).1 = R := ⟨_, rfl⟩
  obtain ⟨ER, hER⟩ : ∃ E, (rowV l).2 = E := ⟨_, rfl⟩
  have hRl : R.length ≤ 1000000000 := by
    rw [← hR]
    unfold rowV
    cases hr : rowE l with
    | none => simp
    | some r => exact rowE_small hr hsum
  have hrow : (ER = 0 → rowE l = some R) ∧ (ER ≠ 0 → rowE l = none) := by
    rw [← hR, ← hER]
    unfold rowV
    cases rowE l with
    | none => exact ⟨fun e => (by cases e), fun _ => rfl⟩
    | some r => exact ⟨fun _ => rfl, fun e => absurd rfl e⟩
  rw [hR, hER] at HROW
  have HRW := Lib.hid hrow
  clear hR hER hrow
  by_cases hj1 : job.length ≤ 65535
  · obtain ⟨S, hS⟩ : ∃ S, Crc.sealT (Crc.le 8 v ++ (Crc.le 2 job.length ++ job) ++ R) = S := ⟨_, rfl⟩
    have hSl : S.length ≤ 1200000000 := by rw [← hS, Crc.seal_length]; simp [Crc.le_length]; omega
    have HT := Lib.hid (show packT v job l = if 64 < job.length ∨ ER ≠ 0 ∨ 65535 < S.length then ([], 5) else (S, 0) by
      unfold packT
      by_cases h64 : 64 < job.length
      · rw [if_pos h64, if_pos (.inl h64)]
      · rw [if_neg h64]
        by_cases hE : ER = 0
        · rw [HRW.out.1 hE]
          simp only [hS]
          by_cases hb : 65535 < S.length
          · rw [if_pos hb, if_pos (.inr (.inr hb))]
          · rw [if_neg hb, if_neg (by simp [h64, hE, hb])]
        · rw [HRW.out.2 hE, if_pos (.inr (.inl hE))])
    have HTX := Lib.hid (fun W => rtext_ok job W hj1)
    have HSE := Lib.hid (fun W => rseal_any (Crc.le 8 v ++ (Crc.le 2 job.length ++ job) ++ R) W (by simp [Crc.le_length]; omega))
    rw [hS] at HSE
    clear hS HRW
    have hl8 : (Crc.le 8 v).length = 8 := Crc.le_length _ _
    have hl2 : (Crc.le 2 job.length ++ job).length ≤ 65537 := by simp [Crc.le_length]; omega
    obtain ⟨J, hJ⟩ : ∃ J, Crc.le 2 job.length ++ job = J := ⟨_, rfl⟩
    rw [hJ] at HTX HSE hl2
    obtain ⟨V8, hV8⟩ : ∃ V8, Crc.le 8 v = V8 := ⟨_, rfl⟩
    rw [hV8] at HSE hl8
    have HNU := Lib.hid (fun W => num_any v 8 W hv (by decide))
    rw [hV8] at HNU
    clear hJ hV8
    by_cases hE : ER = 0
    · subst hE
      by_cases h64 : job.length ≤ 64
      · have h64i : (job.length : Int) ≤ 64 := by omega
        by_cases hS2 : S.length ≤ 65535
        · have hSi : (S.length : Int) ≤ 65535 := by omega
          have HP := Lib.hid (show packT v job l = (S, 0) by rw [HT.out, if_neg (by omega)])
          go_enter Tryz.func83, Tryz.ntmps83
          go_wp2_with fail
          refine (HTX.out _).mono ?_
          rintro e w1 ⟨rfl, hb1⟩
          have HB1 := Lib.hid hb1
          clear hb1
          go_wp2_with fail
          refine (HROW.out _ HB1.out).mono ?_
          rintro e w2 ⟨rfl, hb2⟩
          have HB2 := Lib.hid (HB1.out.trans (hb2.mono HB1.out.size))
          clear hb2
          go_wp2_with fail
          refine (HNU.out _).mono ?_
          rintro e w3 ⟨rfl, hb3⟩
          have HB3 := Lib.hid (HB2.out.trans (hb3.mono HB2.out.size))
          clear hb3
          go_wp2_with fail
          rw [show V8 ++ (J ++ R) = V8 ++ J ++ R by rw [List.append_assoc]]
          refine (HSE.out _).mono ?_
          rintro e w4 ⟨rfl, hb4⟩
          have HB4 := Lib.hid (HB3.out.trans (hb4.mono HB3.out.size))
          clear hb4
          go_wp2_with fail
          go_ret2
          rw [HP.out]
          exact ⟨HB4.out, S, rfl, fun _ => rfl⟩
        · have hSi : ¬ (S.length : Int) ≤ 65535 := by omega
          have HP := Lib.hid (show packT v job l = ([], 5) by rw [HT.out, if_pos (by omega)])
          go_enter Tryz.func83, Tryz.ntmps83
          go_wp2_with fail
          refine (HTX.out _).mono ?_
          rintro e w1 ⟨rfl, hb1⟩
          have HB1 := Lib.hid hb1
          clear hb1
          go_wp2_with fail
          refine (HROW.out _ HB1.out).mono ?_
          rintro e w2 ⟨rfl, hb2⟩
          have HB2 := Lib.hid (HB1.out.trans (hb2.mono HB1.out.size))
          clear hb2
          go_wp2_with fail
          refine (HNU.out _).mono ?_
          rintro e w3 ⟨rfl, hb3⟩
          have HB3 := Lib.hid (HB2.out.trans (hb3.mono HB2.out.size))
          clear hb3
          go_wp2_with fail
          rw [show V8 ++ (J ++ R) = V8 ++ J ++ R by rw [List.append_assoc]]
          refine (HSE.out _).mono ?_
          rintro e w4 ⟨rfl, hb4⟩
          have HB4 := Lib.hid (HB3.out.trans (hb4.mono HB3.out.size))
          clear hb4
          go_wp2_with fail
          go_ret2
          rw [HP.out]
          exact ⟨HB4.out, S, by simp [hSi], fun e => by cases e⟩
      · have h64i : ¬ (job.length : Int) ≤ 64 := by omega
        have HP := Lib.hid (show packT v job l = ([], 5) by rw [HT.out, if_pos (by omega)])
        go_enter Tryz.func83, Tryz.ntmps83
        go_wp2_with fail
        refine (HTX.out _).mono ?_
        rintro e w1 ⟨rfl, hb1⟩
        have HB1 := Lib.hid hb1
        clear hb1
        go_wp2_with fail
        refine (HROW.out _ HB1.out).mono ?_
        rintro e w2 ⟨rfl, hb2⟩
        have HB2 := Lib.hid (HB1.out.trans (hb2.mono HB1.out.size))
        clear hb2
        go_wp2_with fail
        refine (HNU.out _).mono ?_
        rintro e w3 ⟨rfl, hb3⟩
        have HB3 := Lib.hid (HB2.out.trans (hb3.mono HB2.out.size))
        clear hb3
        go_wp2_with fail
        rw [show V8 ++ (J ++ R) = V8 ++ J ++ R by rw [List.append_assoc]]
        refine (HSE.out _).mono ?_
        rintro e w4 ⟨rfl, hb4⟩
        have HB4 := Lib.hid (HB3.out.trans (hb4.mono HB3.out.size))
        clear hb4
        go_wp2_with fail
        go_ret2
        rw [HP.out]
        exact ⟨HB4.out, S, rfl, fun e => by cases e⟩
    · have HP := Lib.hid (show packT v job l = ([], 5) by rw [HT.out, if_pos (.inr (.inl hE))])
      go_enter Tryz.func83, Tryz.ntmps83
      go_wp2_with fail
      refine (HTX.out _).mono ?_
      rintro e w1 ⟨rfl, hb1⟩
      have HB1 := Lib.hid hb1
      clear hb1
      go_wp2_with fail
      refine (HROW.out _ HB1.out).mono ?_
      rintro e w2 ⟨rfl, hb2⟩
      have HB2 := Lib.hid (HB1.out.trans (hb2.mono HB1.out.size))
      clear hb2
      go_wp2_with fail
      refine (HNU.out _).mono ?_
      rintro e w3 ⟨rfl, hb3⟩
      have HB3 := Lib.hid (HB2.out.trans (hb3.mono HB2.out.size))
      clear hb3
      go_wp2_with fail
      rw [show V8 ++ (J ++ R) = V8 ++ J ++ R by rw [List.append_assoc]]
      refine (HSE.out _).mono ?_
      rintro e w4 ⟨rfl, hb4⟩
      have HB4 := Lib.hid (HB3.out.trans (hb4.mono HB3.out.size))
      clear hb4
      go_wp2_with fail
      go_ret2
      rw [HP.out]
      exact ⟨HB4.out, S, rfl, fun e => by cases e⟩
  · have HP := Lib.hid (show packT v job l = ([], 5) by unfold packT; rw [if_pos (by omega)])
    have HTX := Lib.hid (fun W => rtext_no job W (by omega))
    have hl8 : (Crc.le 8 v).length = 8 := Crc.le_length _ _
    obtain ⟨V8, hV8⟩ : ∃ V8, Crc.le 8 v = V8 := ⟨_, rfl⟩
    rw [hV8] at hl8
    have HNU := Lib.hid (fun W => num_any v 8 W hv (by decide))
    rw [hV8] at HNU
    have HSE := Lib.hid (fun W => rseal_any (V8 ++ R) W (by simp; omega))
    clear hV8
    go_enter Tryz.func83, Tryz.ntmps83
    go_wp2_with fail
    refine (HTX.out _).mono ?_
    rintro e w1 ⟨rfl, rfl⟩
    go_wp2_with fail
    refine (HROW.out _ (Below.refl _ _)).mono ?_
    rintro e w2 ⟨rfl, hb2⟩
    have HB2 := Lib.hid hb2
    clear hb2
    go_wp2_with fail
    refine (HNU.out _).mono ?_
    rintro e w3 ⟨rfl, hb3⟩
    have HB3 := Lib.hid (HB2.out.trans (hb3.mono HB2.out.size))
    clear hb3
    go_wp2_with fail
    refine (HSE.out _).mono ?_
    rintro e w4 ⟨rfl, hb4⟩
    have HB4 := Lib.hid (HB3.out.trans (hb4.mono HB3.out.size))
    clear hb4
    go_wp2_with fail
    go_ret2
    rw [HP.out]
    exact ⟨HB4.out, _, rfl, fun e => by cases e⟩
set_option maxRecDepth 100000 in
set_option maxHeartbeats 2000000 in
theorem runpack_any (d : T) (w : World) (hd : d.length ≤ 1000000000) :
    Calls Tryz.prog 77 #[.string (bs d)] w fun e w' => UnpackPost w d e w' := by
  have hopen := fun W => ropen_any d W (by omega)
  obtain ⟨s, hse⟩ : ∃ s, (Crc.openT d).1 = s := ⟨_, rfl⟩
  obtain ⟨o, hoe⟩ : ∃ o, (Crc.openT d).2 = o := ⟨_, rfl⟩
  have hsl : s.length ≤ 1000000000 := by rw [← hse]; exact Nat.le_trans (openT_le d) hd
  have hunp : unpackT d = if o ≠ 0 ∨ s.length < 8 then none else match readT (s.drop 8) with | none => none | some (job, n) => if 64 < job.length then none else (readRow ((s.drop 8).drop n)).map fun l => (Crc.val (s.take 8), job, l) := by
    unfold unpackT; rw [hse, hoe]; rfl
  rw [hse, hoe] at hopen
  have HOPEN := Lib.hid hopen
  have HUNP := Lib.hid hunp
  clear hopen hunp hse hoe
  by_cases ho : o = 0
  · subst ho
    by_cases h8 : s.length < 8
    · have h8i : (s.length : Int) < 8 := by omega
      have HN := Lib.hid (show unpackT d = none by rw [HUNP.out, if_pos (.inr h8)])
      go_enter Tryz.func77, Tryz.ntmps77
      go_wp2_with fail
      refine (HOPEN.out _).mono ?_
      rintro e w1 ⟨rfl, hb1⟩
      have HB1 := Lib.hid hb1
      clear hb1
      go_wp2_with fail
      refine bodyPost_ret (v := .tuple #[.int .u64 0, .string { data := #[] }, .slice none 0 0, .bool false]) (by simp [results, Tryz.results77, go_sem]) rfl ?_
      refine ⟨HB1.out, ?_⟩
      rw [HN.out]
      exact ⟨0, [], rfl⟩
    · have h8i : ¬ (s.length : Int) < 8 := by omega
      have hcf : ∀ W, (Instr.slice 9 (.string (bs s)) (some (.int .i64 8)) none none).run Tryz.prog W = .ok (.string (bs (s.drop 8))) W := fun W => run_cut_from Tryz.prog W 9 Tryz.underlying9 s 8 (by omega)
      have hct : ∀ W, (Instr.slice 9 (.string (bs s)) none (some (.int .i64 8)) none).run Tryz.prog W = .ok (.string (bs (s.take 8))) W := fun W => run_cut_to Tryz.prog W 9 Tryz.underlying9 s 8 (by omega)
      have HRD := Lib.hid (fun W => rreadT_any (s.drop 8) W (by rw [List.length_drop]; omega))
      have HU2 := Lib.hid (show unpackT d = match readT (s.drop 8) with | none => none | some (job, n) => if 64 < job.length then none else (readRow ((s.drop 8).drop n)).map fun l => (Crc.val (s.take 8), job, l) by rw [HUNP.out, if_neg (by omega)])
      cases hr : readT (s.drop 8) with
      | none =>
        have HN := Lib.hid (show unpackT d = none by rw [HU2.out, hr])
        have hv : readV (s.drop 8) = ([], 0, 6) := by unfold readV; rw [hr]
        rw [hv] at HRD
        clear hr hv
        go_enter Tryz.func77, Tryz.ntmps77
        go_wp2_with fail
        refine (HOPEN.out _).mono ?_
        rintro e w1 ⟨rfl, hb1⟩
        have HB1 := Lib.hid hb1
        clear hb1
        go_wp2_with fail
        refine (HRD.out _).mono ?_
        rintro e w2 ⟨rfl, rfl⟩
        go_wp2_with fail
        refine bodyPost_ret (v := .tuple #[.int .u64 0, .string { data := #[] }, .slice none 0 0, .bool false]) (by simp [results, Tryz.results77, go_sem]) rfl ?_
        refine ⟨HB1.out, ?_⟩
        rw [HN.out]
        exact ⟨0, [], rfl⟩
      | some p =>
        obtain ⟨job, n⟩ := p
        have hv : readV (s.drop 8) = (job, n, 0) := by unfold readV; rw [hr]
        rw [hv] at HRD
        have hnl : n ≤ (s.drop 8).length ∧ job.length ≤ (s.drop 8).length := by
          unfold readT at hr
          split at hr
          · cases hr
          · split at hr
            · injection hr with hr
              injection hr with h1 h2
              subst h1 h2
              rename_i hq
              exact ⟨hq, by rw [List.length_drop, List.length_take]; omega⟩
            · cases hr
        have HU3 := Lib.hid (show unpackT d = if 64 < job.length then none else (readRow ((s.drop 8).drop n)).map fun l => (Crc.val (s.take 8), job, l) by rw [HU2.out, hr])
        rw [List.length_drop] at hnl
        clear hr hv HU2 HUNP
        by_cases h64 : 64 < job.length
        · have h64i : (64 : Int) < (job.length : Int) := by omega
          have HN := Lib.hid (show unpackT d = none by rw [HU3.out, if_pos h64])
          go_enter Tryz.func77, Tryz.ntmps77
          go_wp2_with fail
          refine (HOPEN.out _).mono ?_
          rintro e w1 ⟨rfl, hb1⟩
          have HB1 := Lib.hid hb1
          clear hb1
          go_wp2_with fail
          refine (HRD.out _).mono ?_
          rintro e w2 ⟨rfl, rfl⟩
          go_wp2_with fail
          refine bodyPost_ret (v := .tuple #[.int .u64 0, .string { data := #[] }, .slice none 0 0, .bool false]) (by simp [results, Tryz.results77, go_sem]) rfl ?_
          refine ⟨HB1.out, ?_⟩
          rw [HN.out]
          exact ⟨0, [], rfl⟩
        · have h64i : ¬ (64 : Int) < (job.length : Int) := by omega
          have hcn : ∀ W, (Instr.slice 9 (.string (bs s)) (some (.int .i64 (8 + (n : Int)))) none none).run Tryz.prog W = .ok (.string (bs ((s.drop 8).drop n))) W := fun W => by
            have := run_cut_from Tryz.prog W 9 Tryz.underlying9 s (8 + n) (by omega)
            rw [List.drop_drop]
            rw [Int.natCast_add] at this
            exact this
          have hnb : (n : Int) ≤ 1000000000 := by omega
          have HRR := Lib.hid (fun W => rreadRow_any ((s.drop 8).drop n) W (by simp only [List.length_drop]; omega))
          have HVL := Lib.hid (fun W => value_any (s.take 8) W (by rw [List.length_take]; omega))
          have HU4 := Lib.hid (show unpackT d = (readRow ((s.drop 8).drop n)).map fun l => (Crc.val (s.take 8), job, l) by rw [HU3.out, if_neg h64])
          clear HU3 h64
          generalize (s.drop 8).drop n = r at *
          generalize s.drop 8 = s8 at *
          generalize s.take 8 = t8 at *
          cases hrr : readRow r with
          | none =>
            have HN := Lib.hid (show unpackT d = none by rw [HU4.out, hrr]; rfl)
            have HRR2 := Lib.hid (fun W => (show Calls Tryz.prog 124 #[.string (bs r)] W fun e w' => e = .returned (.tuple #[.slice none 0 0, .int .i64 7]) ∧ Below W.heap.size W w' from (HRR.out W).mono (fun e w' h => by unfold RowPost at h; rw [hrr] at h; exact h)))
            clear hrr HRR
            go_enter Tryz.func77, Tryz.ntmps77
            go_wp2_with fail
            refine (HOPEN.out _).mono ?_
            rintro e w1 ⟨rfl, hb1⟩
            have HB1 := Lib.hid hb1
            clear hb1
            go_wp2_with fail
            refine (HRD.out _).mono ?_
            rintro e w2 ⟨rfl, rfl⟩
            go_wp2_with fail
            refine (HRR2.out _).mono ?_
            rintro e w3 ⟨rfl, hb3⟩
            have HB3 := Lib.hid (HB1.out.trans (hb3.mono HB1.out.size))
            clear hb3
            go_wp2_with fail
            refine (HVL.out _).mono ?_
            rintro e w4 ⟨rfl, rfl⟩
            go_wp2_with fail
            refine bodyPost_ret (v := .tuple #[.int .u64 (Crc.val t8 : Nat), .string (bs job), .slice none 0 0, .bool false]) (by simp [results, Tryz.results77, go_sem]) rfl ?_
            refine ⟨HB3.out, ?_⟩
            rw [HN.out]
            exact ⟨_, _, rfl⟩
          | some l =>
            have HN := Lib.hid (show unpackT d = some (Crc.val t8, job, l) by rw [HU4.out, hrr]; rfl)
            have HRR2 := Lib.hid (fun W => (show Calls Tryz.prog 124 #[.string (bs r)] W fun e w' => ∃ v, e = .returned (.tuple #[v, .int .i64 0]) ∧ w'.ownsRow 0 9 1 v l.length (strCells l) ∧ Below W.heap.size W w' ∧ ∀ g, v.ownBlock = some g → W.heap.size ≤ g from (HRR.out W).mono (fun e w' h => by unfold RowPost at h; rw [hrr] at h; exact h)))
            clear hrr HRR
            go_enter Tryz.func77, Tryz.ntmps77
            go_wp2_with fail
            refine (HOPEN.out _).mono ?_
            rintro e w1 ⟨rfl, hb1⟩
            have HB1 := Lib.hid hb1
            clear hb1
            go_wp2_with fail
            refine (HRD.out _).mono ?_
            rintro e w2 ⟨rfl, rfl⟩
            go_wp2_with fail
            refine (HRR2.out _).mono ?_
            rintro e w3 ⟨v3, rfl, ho3, hb3, hg3⟩
            have HB3 := Lib.hid (HB1.out.trans (hb3.mono HB1.out.size))
            have HO3 := Lib.hid (And.intro ho3 (fun g hg => Nat.le_trans HB1.out.size (hg3 g hg)))
            clear hb3 ho3 hg3
            go_wp2_with fail
            refine (HVL.out _).mono ?_
            rintro e w4 ⟨rfl, rfl⟩
            go_wp2_with fail
            refine bodyPost_ret (v := .tuple #[.int .u64 (Crc.val t8 : Nat), .string (bs job), v3, .bool true]) (by simp [results, Tryz.results77, go_sem]) rfl ?_
            refine ⟨HB3.out, ?_⟩
            rw [HN.out]
            exact ⟨_, rfl, HO3.out.1, HO3.out.2⟩
  · have hoi : ¬ o = (0 : Int) := ho
    have HN := Lib.hid (show unpackT d = none by rw [HUNP.out, if_pos (.inl ho)])
    go_enter Tryz.func77, Tryz.ntmps77
    go_wp2_with fail
    refine (HOPEN.out _).mono ?_
    rintro e w1 ⟨rfl, hb1⟩
    have HB1 := Lib.hid hb1
    clear hb1
    go_wp2_with fail
    refine bodyPost_ret (v := .tuple #[.int .u64 0, .string { data := #[] }, .slice none 0 0, .bool false]) (by simp [results, Tryz.results77, go_sem]) rfl ?_
    refine ⟨HB1.out, ?_⟩
    rw [HN.out]
    exact ⟨0, [], rfl⟩
end Go.Proofs.YtoaihngckcbhiaaGreatDoor.Man
