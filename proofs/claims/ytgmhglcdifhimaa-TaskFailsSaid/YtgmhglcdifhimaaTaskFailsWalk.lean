/- maslinlaw30.TaskFails, walked. -/
import Derived.Test.YtgmhglcdifhimaaTaskMine
import Derived.Test.YtgmhglcdifhimaaTaskFailsLaw
namespace Go.Proofs.Ytgmhglcdifhimaa
open Go.RowKit Go.Maps Go.Sort
open Tsk

theorem tf_may (n : Nat) (h : n < 9) : MayB [[], []] (n : Int) := by
  refine ⟨by decide, by omega, by omega, fun t ht => ?_⟩
  match t, ht with
  | 0, _ => exact ⟨fun n hn => (by cases hn), List.nodup_nil⟩
  | 1, _ => exact ⟨fun n hn => (by cases hn), List.nodup_nil⟩
  | t + 2, ht => exact absurd ht (by simp)
theorem tf_needs (w : World) : NeedsAt (w.alloc (.cells #[.slice none 0 0, .slice none 0 0] 39)) (some ⟨w.heap.size, 0, none⟩) [[], []] := fun i hi => by
  have hc : ∀ j, (w.alloc (.cells #[.slice none 0 0, .slice none 0 0] 39)).cell? ⟨w.heap.size, j, none⟩ = #[Value.slice none 0 0, .slice none 0 0][j]? := fun j => cell_new_row w #[.slice none 0 0, .slice none 0 0] 39 j
  match i, hi with
  | 0, _ => exact ⟨_, .slice none 0 0, rfl, by rw [add_plain, hc]; rfl, ⟨none, 0, rfl, fun i hi => absurd hi (Nat.not_lt_zero i), fun _ => rfl⟩, Nat.zero_le _, fun x hx => by cases hx⟩
  | 1, _ => exact ⟨_, .slice none 0 0, rfl, by rw [add_plain, hc]; rfl, ⟨none, 0, rfl, fun i hi => absurd hi (Nat.not_lt_zero i), fun _ => rfl⟩, Nat.zero_le _, fun x hx => by cases hx⟩
  | i + 2, hi => exact absurd hi (by simp)
theorem at0_eq {b : Board} {j : Nat} (h : j < b.l.length) : b.l[j].fails = b.at0 j := by
  unfold Board.at0
  rw [List.getElem?_eq_getElem h]
theorem fE_all (n k : Nat) (hn : n < 9) (hk : k < 21) (h0 : 0 < k) : ∃ h : 0 < (fD n k (k - 1)).l.length, (fD n k (k - 1)).l[0].is = true ∧ (fD n k (k - 1)).l[0].value = [118] ∧ (fD n k (k - 1)).state 0 = 3 ∧ ((fD n k (k - 1)).fail 0).2 = 3 ∧ (fE n k).at0 0 = n ∧ (fE n k).l.length = 2 := by
  have h := fE_ok n hn k hk h0
  unfold fEok at h
  have hl : 0 < (fD n k (k - 1)).l.length := by
    cases hg : (fD n k (k - 1)).l with
    | nil => rw [hg] at h; cases h
    | cons x l => simp
  rw [List.getElem?_eq_getElem hl] at h
  simp only [Bool.and_eq_true, beq_iff_eq] at h
  obtain ⟨⟨⟨⟨⟨⟨⟨h1, h2⟩, h3⟩, h4⟩, h5⟩, h6⟩, h7⟩, h8⟩ := h
  exact ⟨hl, h1, h2, h5, h6, h7, h8⟩
set_option maxRecDepth 100000 in
set_option maxHeartbeats 4000000 in
theorem taskFails_any (W : World) (r : Int) (hr : (Lit.int .u8 r).wf = true) (x : Int) (hx : (Lit.int .u8 x).wf = true) :
    Calls Try.prog 6 #[.int .u8 r, .int .u8 x] W fun e w' => e = .returned (.bool true) ∧ Below W.heap.size W w' := by
  have hr3 : IntKind.u8.min ≤ r ∧ r ≤ IntKind.u8.max := by simpa [Lit.wf] using hr
  have hr2 : 0 ≤ r ∧ r ≤ 255 := hr3
  have hx3 : IntKind.u8.min ≤ x ∧ x ≤ IntKind.u8.max := by simpa [Lit.wf] using hx
  have hx2 : 0 ≤ x ∧ x ≤ 255 := hx3
  obtain ⟨R, rfl⟩ : ∃ n : Nat, r = (n : Int) := ⟨r.toNat, by omega⟩
  obtain ⟨X, rfl⟩ : ∃ n : Nat, x = (n : Int) := ⟨x.toNat, by omega⟩
  clear hr hx hr3 hx3
  obtain ⟨hr0, hr1⟩ := hr2
  obtain ⟨hx0, hx1⟩ := hx2
  obtain ⟨n, hn, hrn⟩ : ∃ n : Nat, n < 9 ∧ (R : Int) % 9 = (n : Int) := ⟨R % 9, by omega, by omega⟩
  obtain ⟨k, hk0, hk1, hkn⟩ : ∃ k : Nat, 0 < k ∧ k < 21 ∧ 1 + (X : Int) % 20 = (k : Int) := ⟨1 + X % 20, by omega, by omega, by omega⟩
  have HRN := Lib.hid hrn; have HKN := Lib.hid hkn
  have HN := Lib.hid (new_yes (some ⟨W.heap.size, 0, none⟩) 2 [[], []] (n : Int) _ (tf_needs W) (tf_may n hn))
  have HFINE := Lib.hid (new_fine (tf_may n hn))
  rw [Int.toNat_natCast] at HN HFINE
  clear hrn hkn
  go_enter Try.func6, Try.ntmps6
  go_wp2_with fail
  rw [HRN.out]
  refine HN.out.mono ?_
  rintro e w1 ⟨p, m, lv, nvs, rfl, hB, hb, hnew⟩
  have H0 := Lib.hid (show MyB W w1 p m lv nvs (fA n 0) (2 * 0) from ⟨hB, HFINE.out, ((Below.refl _ _).alloc (Nat.le_refl _) _).trans (hb.mono (by simp)), fun i hi => by have := hnew i hi; simp at this; omega⟩)
  clear hB hb hnew HN HFINE
  go_wp2_with fail
  go_loopw [8] (fun i wr => ∃ j : Nat, j ≤ n ∧ i = .int .i64 j ∧ MyB W wr p m lv nvs (fA n j) (2 * j)) (fun i _ => n - (intOf i).toNat)
  case atStart => exact ⟨0, Nat.zero_le _, rfl, H0.out⟩
  case round =>
    clear H0
    obtain ⟨j, hj, rfl, hM⟩ := hrel
    have HM := Lib.hid hM
    clear hM
    by_cases hlt : j < n
    · obtain ⟨f1, f2, f3, f4⟩ := fA_ok n hn j hlt
      have F2 := Lib.hid f2; have F3 := Lib.hid f3; have F4 := Lib.hid f4
      have HS := Lib.hid (start_any HM.out.board HM.out.fine (by omega) 0 3 (by decide))
      rw [f1] at HS
      clear f1 f2 f3 f4
      go_wp2_with fail
      refine HS.out.mono ?_
      rintro e w2 ⟨rfl, ht⟩
      have H1 := Lib.hid (HM.out.start 0 3 ht)
      have HS2 := Lib.hid (fail_any H1.out.board H1.out.fine (by omega) 3 (by decide))
      rw [F2.out] at HS2
      clear ht HM HS
      go_wp2_with fail
      refine HS2.out.mono ?_
      rintro e w3 ⟨rfl, ht⟩
      have H2 := Lib.hid (show MyB W w3 p m lv nvs (fA n (j + 1)) (2 * (j + 1)) from H1.out.fail 3 ht)
      have HS3 := Lib.hid (fails_in H2.out.board 0 (by rw [F4.out]; decide))
      rw [at0_eq, F3.out, Int.natCast_add, Int.natCast_one] at HS3
      clear ht H1 HS2
      go_wp2_with fail
      refine HS3.out.mono ?_
      rintro e w4 ⟨rfl, rfl⟩
      go_wp2_with fail
      go_roundw
      case rel => exact ⟨j + 1, by omega, by go_num, H2.out⟩
      case measure => simp [intOf]; omega
    · obtain rfl : n = j := by omega
      have HO := Lib.hid (over_any HM.out.board)
      rw [fA_end n hn] at HO
      go_wp2_with fail
      refine HO.out.mono ?_
      rintro e w4 ⟨rfl, rfl⟩
      clear HO
      go_wp2_with fail
      rw [HKN.out]
      go_loopw [12] (fun i wr => ∃ j : Nat, j ≤ k ∧ i = .int .i64 j ∧ MyB W wr p m lv nvs (fB n j) (2 * n + 2 * j)) (fun i _ => k - (intOf i).toNat)
      case atStart => exact ⟨0, Nat.zero_le _, rfl, HM.out⟩
      case round =>
        clear HM
        obtain ⟨j, hj, rfl, hM⟩ := hrel
        have HM := Lib.hid hM
        clear hM
        by_cases hlt : j < k
        · obtain ⟨f1, f2⟩ := fB_ok n hn j (by omega)
          have F2 := Lib.hid f2
          have HS := Lib.hid (start_any HM.out.board HM.out.fine (by omega) 0 j (WalkArith.wf_i64 (by omega)))
          rw [f1] at HS
          clear f1 f2
          go_wp2_with fail
          refine HS.out.mono ?_
          rintro e w2 ⟨rfl, ht⟩
          have H1 := Lib.hid (HM.out.start 0 j ht)
          have HS2 := Lib.hid (start_any H1.out.board H1.out.fine (by omega) 1 j (WalkArith.wf_i64 (by omega)))
          rw [F2.out] at HS2
          clear ht HM HS
          go_wp2_with fail
          refine HS2.out.mono ?_
          rintro e w3 ⟨rfl, ht⟩
          have H2 := Lib.hid (show MyB W w3 p m lv nvs (fB n (j + 1)) (2 * n + 2 * (j + 1)) from H1.out.start 1 j ht)
          clear ht H1 HS2
          go_wp2_with fail
          go_roundw
          case rel => exact ⟨j + 1, by omega, by go_num, H2.out⟩
          case measure => simp [intOf]; omega
        · obtain rfl : k = j := by omega
          have HC := Lib.hid (commit_any HM.out.board HM.out.fine ((k : Int) - 1) (WalkArith.wf_i64 (by omega)) [118])
          rw [fC_ok n hn k hk1 hk0] at HC
          go_wp2_with fail
          refine HC.out.mono ?_
          rintro e w2 ⟨rfl, ht⟩
          have H1 := Lib.hid (show MyB W w2 p m lv nvs (fD n k 0) (2 * n + 2 * k + 0) from HM.out.commit ((k : Int) - 1) [118] ht)
          clear ht HM HC
          go_wp2_with fail
          go_loopw [15] (fun i wr => ∃ j : Nat, j + 1 ≤ k ∧ i = .int .i64 j ∧ MyB W wr p m lv nvs (fD n k j) (2 * n + 2 * k + j)) (fun i _ => k - (intOf i).toNat)
          case atStart => exact ⟨0, by omega, rfl, H1.out⟩
          case round =>
            clear H1
            obtain ⟨j, hj, rfl, hM⟩ := hrel
            have HM := Lib.hid hM
            clear hM
            by_cases hlt : j + 1 < k
            · have HS := Lib.hid (fail_any HM.out.board HM.out.fine (by omega) j (WalkArith.wf_i64 (by omega)))
              rw [fD_ok n hn k hk1 j (by omega) hlt] at HS
              have hltI : (j : Int) + 1 < (k : Int) := by omega
              go_wp2_with fail
              refine HS.out.mono ?_
              rintro e w3 ⟨rfl, ht⟩
              have H2 := Lib.hid (show MyB W w3 p m lv nvs (fD n k (j + 1)) (2 * n + 2 * k + (j + 1)) from HM.out.fail j ht)
              clear ht HM HS
              go_wp2_with fail
              go_roundw
              case rel => exact ⟨j + 1, by omega, by go_num, H2.out⟩
              case measure => simp [intOf]; omega
            · obtain rfl : j = k - 1 := by omega
              obtain ⟨f0, f1, f2, f3, f4, f5, f6⟩ := fE_all n k hn hk1 hk0
              have HS := Lib.hid (stateP_in HM.out.board HM.out.fine (by omega) 0 f0)
              have HV := Lib.hid (fun (V : World) (h : MyB W V p m lv nvs (fD n k (k - 1)) (2 * n + 2 * k + (k - 1))) => value_in h.board 0 f0)
              rw [f3] at HS
              rw [f1, f2, if_pos rfl] at HV
              have F4 := Lib.hid f4; have F5 := Lib.hid f5; have F6 := Lib.hid f6
              clear f0 f1 f2 f3 f4 f5 f6
              go_wp2_with fail
              refine HS.out.mono ?_
              rintro e w3 ⟨rfl, hb⟩
              have H2 := Lib.hid (HM.out.step hb)
              clear hb HM HS
              go_wp2_with fail
              refine (HV.out _ H2.out).mono ?_
              rintro e w4 ⟨rfl, rfl⟩
              have HF := Lib.hid (fail_any H2.out.board H2.out.fine (by omega) 0 (by decide))
              rw [F4.out] at HF
              go_wp2_with fail
              refine HF.out.mono ?_
              rintro e w4 ⟨rfl, ht⟩
              have H3 := Lib.hid (show MyB W w4 p m lv nvs (fF n k 0) (2 * n + 2 * k + (k - 1) + 1 + 2 * 0) from H2.out.fail 0 ht)
              have HG := Lib.hid (fails_in H3.out.board 0 (by show 0 < (fE n k).l.length; rw [F6.out]; decide))
              rw [at0_eq] at HG
              have F5' := Lib.hid (show (fF n k 0).at0 0 = n from F5.out)
              rw [F5'.out] at HG
              clear ht H2 HF HV F4 F5 F5' F6
              go_wp2_with fail
              refine HG.out.mono ?_
              rintro e w5 ⟨rfl, rfl⟩
              clear HG
              go_wp2_with fail
              go_loopw [20] (fun i wr => ∃ j : Nat, j ≤ n + 1 ∧ i = .int .i64 j ∧ MyB W wr p m lv nvs (fF n k j) (2 * n + 2 * k + (k - 1) + 1 + 2 * j)) (fun i _ => n + 1 - (intOf i).toNat)
              case atStart => exact ⟨0, by omega, rfl, H3.out⟩
              case round =>
                clear H3
                obtain ⟨j, hj, rfl, hM⟩ := hrel
                have HM := Lib.hid hM
                clear hM hlt
                by_cases hlt : j < n + 1
                · obtain ⟨f1, f2⟩ := fF_ok n hn k hk1 hk0 j hlt
                  have F2 := Lib.hid f2
                  have HS := Lib.hid (start_any HM.out.board HM.out.fine (by omega) 1 9 (by decide))
                  rw [f1] at HS
                  clear f1 f2
                  have hle : (j : Int) ≤ (n : Int) := by omega
                  go_wp2_with fail
                  refine HS.out.mono ?_
                  rintro e w2 ⟨rfl, ht⟩
                  have H1 := Lib.hid (HM.out.start 1 9 ht)
                  have HS2 := Lib.hid (fail_any H1.out.board H1.out.fine (by omega) 9 (by decide))
                  rw [F2.out] at HS2
                  clear ht HM HS
                  go_wp2_with fail
                  refine HS2.out.mono ?_
                  rintro e w3 ⟨rfl, ht⟩
                  have H2 := Lib.hid (show MyB W w3 p m lv nvs (fF n k (j + 1)) (2 * n + 2 * k + (k - 1) + 1 + 2 * (j + 1)) from H1.out.fail 9 ht)
                  clear ht H1 HS2
                  go_wp2_with fail
                  go_roundw
                  case rel => exact ⟨j + 1, by omega, by go_num, H2.out⟩
                  case measure => simp [intOf]; omega
                · obtain rfl : j = n + 1 := by omega
                  have hle : ¬ ((n + 1 : Nat) : Int) ≤ (n : Int) := by omega
                  obtain ⟨g1, g2, g3⟩ := fG_ok n hn k hk1 hk0
                  have HO := Lib.hid (over_any HM.out.board)
                  rw [g1] at HO
                  have HS := Lib.hid (start_any HM.out.board HM.out.fine (by omega) 1 9 (by decide))
                  rw [g2] at HS
                  have G3 := Lib.hid g3
                  clear g1 g2 g3
                  go_wp2_with fail
                  refine HO.out.mono ?_
                  simp only [Option.getD_some, Option.isSome_some]
                  rintro e w2 ⟨rfl, rfl⟩
                  go_wp2_with fail
                  refine HS.out.mono ?_
                  rintro e w2 ⟨rfl, ht⟩
                  have H1 := Lib.hid (HM.out.start 1 9 ht)
                  have HD := Lib.hid (done_any H1.out.board H1.out.fine.len)
                  rw [G3.out] at HD
                  clear ht HM HS HO
                  go_wp2_with fail
                  refine HD.out.mono ?_
                  rintro e w3 ⟨rfl, hb⟩
                  have H2 := Lib.hid (H1.out.step hb)
                  clear hb H1 HD
                  go_wp2_with fail
                  refine (alive30_any _).mono ?_
                  rintro e w4 ⟨rfl, hb⟩
                  have H3 := Lib.hid (H2.out.step hb)
                  clear hb H2
                  go_wp2_with fail
                  go_ret
                  exact ⟨rfl, H3.out.below⟩
end Go.Proofs.Ytgmhglcdifhimaa
