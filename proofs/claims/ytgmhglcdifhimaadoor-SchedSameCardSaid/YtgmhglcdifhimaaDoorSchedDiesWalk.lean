/- maslinlaw31.SchedDies, walked. -/
import Derived.Test.YtgmhglcdifhimaaDoorSchedAsk
import Derived.Test.YtgmhglcdifhimaaDoorTaskHead
namespace Go.Proofs.YtgmhglcdifhimaaDoor
open Go.RowKit Go.Maps Go.Sort
open Tsk

theorem Doors.below {w w' : World} (h : Doors w) (hb : Below w.heap.size w w') : Doors w' := h.upd (Upd.of_below (F := fun _ => False) hb) (block_lt_of_cell h.1) (fun f => f)
set_option maxRecDepth 100000 in
set_option maxHeartbeats 8000000 in
theorem schedDies_walk (W : World) (hD : Doors W) (a c : Option Addr) (cap cap' : Nat) (L : List (List Int)) (wk : Int) (l : List Sch.Pick) (wh : Int) (hwk : (Lit.int .u8 wk).wf = true) (hwh : (Lit.int .u8 wh).wf = true) (hL : NeedsAt W a L) (hlen : L.length ≤ maxLen) (hl : PicksAt W c l) (hl2 : l.length ≤ maxLen) (hok : ∀ x ∈ l, okPick x) :
    Calls Tryd.prog 3 #[.slice a L.length cap, .int .u8 wk, .slice c l.length cap', .int .u8 wh] W fun e w' => e = .returned (.bool true) ∧ Below W.heap.size W w' := by
  have hwk3 : IntKind.u8.min ≤ wk ∧ wk ≤ IntKind.u8.max := by simpa [Lit.wf] using hwk
  have hwk2 : 0 ≤ wk ∧ wk ≤ 255 := hwk3
  have hwh3 : IntKind.u8.min ≤ wh ∧ wh ≤ IntKind.u8.max := by simpa [Lit.wf] using hwh
  have hwh2 : 0 ≤ wh ∧ wh ≤ 255 := hwh3
  obtain ⟨WK, rfl⟩ : ∃ n : Nat, wk = (n : Int) := ⟨wk.toNat, by omega⟩
  obtain ⟨WH, rfl⟩ : ∃ n : Nat, wh = (n : Int) := ⟨wh.toNat, by omega⟩
  clear hwk hwh hwk3 hwh3
  obtain ⟨hwk0, hwk1⟩ := hwk2
  obtain ⟨hwh0, hwh1⟩ := hwh2
  obtain ⟨N, hN1, hN2, hN3⟩ : ∃ N : Nat, 1 ≤ N ∧ N ≤ 16 ∧ 1 + (WK : Int) % 16 = (N : Int) := ⟨1 + WK % 16, by omega, by omega, by omega⟩
  obtain ⟨K, hK1, hK2⟩ : ∃ K : Nat, K < N ∧ (WH : Int) % (N : Int) = (K : Int) := ⟨WH % N, Nat.mod_lt _ (by omega), by omega⟩
  have HN3 := Lib.hid hN3; have HK2 := Lib.hid hK2
  have HL := Lib.hid hL; have HS := Lib.hid hl; have HOK := Lib.hid hok
  have HLEN := Lib.hid hlen; have HL2 := Lib.hid hl2; have HD := Lib.hid hD
  have HAL := Lib.hid (fun (V : World) (h : Doors V) => alive31_any V h)
  clear hL hl hok hlen hl2 hN3 hK2 hD
  go_enter Tryd.func3, Tryd.ntmps3
  go_wp2_with fail
  refine (heavy30_any a none cap 0 0 L _ HL.out HLEN.out (Nat.zero_le _)).mono ?_
  rintro e w1 ⟨hv, rfl, rfl, himp⟩
  cases hv with
  | true =>
    clear himp
    go_wp2_with fail
    refine (HAL.out _ HD.out).mono ?_
    rintro e w2 ⟨rfl, hb⟩
    go_wp2_with fail
    go_ret
    exact ⟨rfl, hb⟩
  | false =>
    obtain ⟨h30, h200, h100⟩ := himp rfl
    clear himp
    have HR := Lib.hid (show ∀ x ∈ L, x.length ≤ 1000 from fun x hx => by have := h200 x hx; omega)
    clear h200
    by_cases h120 : 120 < (l.length : Int)
    · go_wp2_with fail
      refine (HAL.out _ HD.out).mono ?_
      rintro e w2 ⟨rfl, hb⟩
      go_wp2_with fail
      go_ret
      exact ⟨rfl, hb⟩
    · go_wp2_with fail
      refine (copied30_any a cap L _ HL.out (by omega) HR.out).mono ?_
      rintro e w2 ⟨q, qc, rfl, hn, hb⟩
      have HN := Lib.hid hn; have HB := Lib.hid hb; have HD2 := Lib.hid (HD.out.below hb)
      clear hn hb
      by_cases hmay : MayB L 8
      · have HMAY := Lib.hid hmay
        clear hmay
        go_wp2_with fail
        rw [HN3.out]
        refine (snew_yes q qc L 8 N _ HN.out HMAY.out hN1 hN2 HD2.out).mono ?_
        intro e w3 hS
        obtain ⟨P, p, m, lv, nvs, vv, rfl, hM⟩ := MyM.made hS HMAY.out hN2 HB.out
        have HM := Lib.hid hM
        clear hM hS HN HB HD2
        have hLn : (⟨Board.new (natsL L) (8 : Int).toNat, List.replicate N true⟩ : Sch.Master).b.l.length = L.length := by show (List.map _ (natsL L)).length = _; simp [natsL]
        have hpl := played_any HM.out HS.out (cap := cap') HOK.out (by omega) (by omega)
        rw [hLn] at hpl
        have HCM := Lib.hid (calm_play (⟨Board.new (natsL L) (8 : Int).toNat, List.replicate N true⟩, List.replicate L.length 0) (calm_new _ _ _) l)
        have HPO := Lib.hid (show PlayOk _ 0 (playAll (⟨Board.new (natsL L) (8 : Int).toNat, List.replicate N true⟩, List.replicate L.length 0) l) l.length from by
          have := (PlayOk.start (M := ⟨Board.new (natsL L) (8 : Int).toNat, List.replicate N true⟩) HM.out.fine).to l l.length (Nat.le_refl _)
          rw [playTo_all, hLn] at this
          exact this)
        have HPL := Lib.hid hpl
        clear hpl hLn
        go_wp2_with fail
        refine HPL.out.mono ?_
        rintro e w4 ⟨rfl, hP⟩
        clear HPL
        generalize playAll (⟨Board.new (natsL L) (8 : Int).toNat, List.replicate N true⟩, List.replicate L.length 0) l = s at *
        obtain ⟨M, F⟩ := s
        have HP := Lib.hid hP.my
        have HCALM := Lib.hid (show M.Calm from HCM.out)
        have HLV := Lib.hid (show M.lives.length = N from HPO.out.lives.trans (by simp))
        have HFI := Lib.hid (show M.b.Fine (0 + l.length) from HPO.out.fine)
        clear hP HCM HPO HM
        go_wp2_with fail
        rw [HK2.out]
        refine (HP.out.board).mono ?_
        rintro e wz ⟨rfl, rfl⟩
        go_wp2_with fail
        have hat := at_any HP.out.mast.board (K : Int) (WalkArith.wf_i64 (by omega))
        have HKL := Lib.hid (show K < M.lives.length from by rw [HLV.out]; exact hK1)
        obtain ⟨at0, hat0⟩ : ∃ o, M.b.at_ (K : Int) = o := ⟨_, rfl⟩
        rw [hat0] at hat
        have HAT := Lib.hid hat0
        have HA := Lib.hid hat
        clear hat hat0
        refine HA.out.mono ?_
        rintro e wz ⟨rfl, rfl⟩
        clear HA
        cases at0 with
        | none =>
          go_wp2_with fail
          refine (HP.out.board).mono ?_
          rintro e wz ⟨rfl, rfl⟩
          go_wp2_with fail
          refine (HP.out.crowd (by omega) 0).mono ?_
          rintro e w5 ⟨q5, c5, rfl, hb⟩
          have HP1 := Lib.hid (HP.out.step hb)
          clear hb HP
          go_wp2_with fail
          refine (HP1.out.board).mono ?_
          rintro e wz ⟨rfl, rfl⟩
          go_wp2_with fail
          refine (failsN_any HP1.out.mast.board 0).mono ?_
          rintro e wz ⟨rfl, rfl⟩

          obtain ⟨cr, hcr⟩ : ∃ n, Board.crowd M.b 0 = n := ⟨_, rfl⟩
          obtain ⟨fa, hfa⟩ : ∃ n, Board.failsN M.b 0 = n := ⟨_, rfl⟩
          rw [hcr, hfa]
          clear hcr hfa
          have HP2 := HP1
          clear HP1
          cases hlv : M.lives.getD K false with
          | false =>
            have hd := HP2.out.do_ (by omega) 4 (by omega) (K : Int) 0 []
            rw [show Sch.Master.do_ M ⟨4, K, 0⟩ [] = (M, ⟨0, false, 310⟩) from die_dead K HKL.out hlv] at hd
            have HDIE := Lib.hid hd
            clear hd hlv
            go_wp2_with fail
            refine HDIE.out.mono ?_
            rintro e w6 ⟨rfl, ht⟩
            have HQ := Lib.hid (HP2.out.to ht HP2.out.fine rfl)
            clear ht HDIE
            unfold ansV
            go_wp2_with fail
            have hbk : Below w6.heap.size w6 (w6.alloc (.cells #[.int .i64 0, .bool false] 42)) := (Below.refl _ _).alloc (Nat.le_refl _) _
            have HQ1 := Lib.hid (HQ.out.step hbk)
            clear hbk HQ
            refine (HAL.out _ HQ1.out.mast.doors).mono ?_
            rintro e w11 ⟨rfl, hb⟩
            have HB5 := Lib.hid (HQ1.out.below.trans (hb.mono HQ1.out.below.size))
            clear hb HQ1
            go_wp2_with fail
            go_ret
            exact ⟨rfl, HB5.out⟩
          | true =>
            have HLIVE := Lib.hid hlv
            clear hlv
            have HK4 := Lib.hid (show K < (M.lives.set K false).length ∧ (M.lives.set K false).getD K false = false ∧ K < ((M.lives.set K false).set K true).length ∧ ((M.lives.set K false).set K true).getD K false = true from ⟨by rw [List.length_set]; exact HKL.out, by rw [getD_set, if_pos ⟨rfl, HKL.out⟩], by rw [List.length_set, List.length_set]; exact HKL.out, by rw [getD_set, if_pos ⟨rfl, by rw [List.length_set]; exact HKL.out⟩]⟩)
            have hd := HP2.out.do_ (by omega) 4 (by omega) (K : Int) 0 []
            have HDN := Lib.hid (fun V => HP2.out.done (w' := V) ⟨4, K, 0⟩ [])
            rw [die_live K HKL.out HLIVE.out] at hd
            rw [show Sch.Master.do_ M ⟨4, K, 0⟩ [] = _ from die_live K HKL.out HLIVE.out] at HDN

            rw [show Sch.Master.at_ M (K : Int) = (0 : Int) from by unfold Sch.Master.at_; rw [HAT.out]; rfl] at hd
            have HDIE := Lib.hid hd
            clear hd
            go_wp2_with fail
            refine HDIE.out.mono ?_
            rintro e w6 ⟨rfl, ht⟩
            have HQ := Lib.hid (HDN.out _ ht)
            clear ht HDIE HDN
            unfold ansV
            have hbk : Below w6.heap.size w6 (w6.alloc (.cells #[.int .i64 (0 : Int), .bool false] 42)) := (Below.refl _ _).alloc (Nat.le_refl _) _
            have HQ1 := Lib.hid (HQ.out.step hbk)
            clear hbk HQ

            go_wp2_with fail
            have HP1 := HQ1
            clear HQ1
            generalize w6.alloc (.cells #[.int .i64 (0 : Int), .bool false] 42) = v6 at *
            generalize w6.heap.size = g6 at *
            refine (HP1.out.board).mono ?_
            rintro e wz ⟨rfl, rfl⟩
            go_wp2_with fail
            have hat1 := at_any HP1.out.mast.board (K : Int) (WalkArith.wf_i64 (by omega))
            rw [show (M.b.fail (K : Int)).1.at_ (K : Int) = none from by rw [at_dropped (fail_tries _), if_pos rfl]] at hat1
            refine hat1.mono ?_
            clear hat1
            rintro e wz ⟨rfl, rfl⟩
            have hs1 : Sch.Master.do_ ⟨(M.b.fail (K : Int)).1, M.lives.set K false⟩ ⟨0, K, 0⟩ [] = (⟨(M.b.fail (K : Int)).1, M.lives.set K false⟩, ⟨0, false, 310⟩) := start_dead K HK4.out.1 HK4.out.2.1
            have hs2 : Sch.Master.do_ ⟨(M.b.fail (K : Int)).1, M.lives.set K false⟩ ⟨5, K, 0⟩ [] = (⟨(M.b.fail (K : Int)).1, (M.lives.set K false).set K true⟩, ⟨0, false, 0⟩) := wake_dead K HK4.out.1 HK4.out.2.1
            have hs3 : Sch.Master.do_ ⟨(M.b.fail (K : Int)).1, (M.lives.set K false).set K true⟩ ⟨5, K, 0⟩ [] = (⟨(M.b.fail (K : Int)).1, (M.lives.set K false).set K true⟩, ⟨0, false, 2⟩) := wake_live K HK4.out.2.2.1 HK4.out.2.2.2
            have hd1 := HP1.out.do_ (by omega) 0 (by omega) (K : Int) 0 []
            rw [hs1] at hd1
            have HD1 := Lib.hid hd1
            have HF1 := Lib.hid (HP1.out.fine)
            clear hd1 hs1
            go_wp2_with fail
            refine HD1.out.mono ?_
            rintro e w8 ⟨rfl, ht⟩
            have HQ1 := Lib.hid (HP1.out.to ht HP1.out.fine rfl)
            clear ht HD1 HP1
            unfold ansV
            go_wp2_with fail
            have hbk : Below w8.heap.size w8 (w8.alloc (.cells #[.int .i64 0, .bool false] 42)) := (Below.refl _ _).alloc (Nat.le_refl _) _
            have HP2 := Lib.hid (HQ1.out.step hbk)
            clear hbk HQ1
            generalize w8.alloc (.cells #[.int .i64 0, .bool false] 42) = v8 at *
            generalize w8.heap.size = g8 at *
            have hd2 := HP2.out.do_ (by omega) 5 (by omega) (K : Int) 0 []
            rw [hs2] at hd2
            refine hd2.mono ?_
            rintro e w9 ⟨rfl, ht⟩
            have HQ2 := Lib.hid (HP2.out.to ht HP2.out.fine (by simp))
            clear ht hd2 HP2 hs2
            unfold ansV
            go_wp2_with fail
            have hbk : Below w9.heap.size w9 (w9.alloc (.cells #[.int .i64 0, .bool false] 42)) := (Below.refl _ _).alloc (Nat.le_refl _) _
            have HP3 := Lib.hid (HQ2.out.step hbk)
            clear hbk HQ2
            generalize w9.alloc (.cells #[.int .i64 0, .bool false] 42) = v9 at *
            generalize w9.heap.size = g9 at *
            have hd3 := HP3.out.do_ (by omega) 5 (by omega) (K : Int) 0 []
            rw [hs3] at hd3
            refine hd3.mono ?_
            rintro e w10 ⟨rfl, ht⟩
            have HQ3 := Lib.hid (HP3.out.to ht HP3.out.fine (by simp))
            clear ht hd3 HP3 hs3
            unfold ansV
            go_wp2_with fail
            have hbk : Below w10.heap.size w10 (w10.alloc (.cells #[.int .i64 0, .bool false] 42)) := (Below.refl _ _).alloc (Nat.le_refl _) _
            have HP4 := Lib.hid (HQ3.out.step hbk)
            clear hbk HQ3
            generalize w10.alloc (.cells #[.int .i64 0, .bool false] 42) = v10 at *
            generalize w10.heap.size = g10 at *
            refine (HAL.out _ HP4.out.mast.doors).mono ?_
            rintro e w11 ⟨rfl, hb⟩
            have HB5 := Lib.hid (HP4.out.below.trans (hb.mono HP4.out.below.size))
            clear hb HP4
            go_wp2_with fail
            go_ret
            exact ⟨rfl, HB5.out⟩

        | some T =>
          have htl := HFI.out.at_lt HAT.out
          have HTL := Lib.hid htl
          have hlive : M.lives.getD K false = true := by
            cases h : M.lives.getD K false with
            | true => rfl
            | false => have := HCALM.out K h; rw [HAT.out] at this; cases this
          have HLIVE := Lib.hid hlive
          have hcr := fail_workers HFI.out.nodup HAT.out
          have HCR := Lib.hid (show Board.crowd M.b T = Board.crowd (M.b.fail (K : Int)).1 T + 1 from by unfold Board.crowd; rw [if_pos htl, if_pos (by rw [(fail_len _).1]; exact htl)]; exact hcr)
          have HFA := Lib.hid (fail_failsN HAT.out htl)
          clear htl hlive hcr
          go_wp2_with fail
          refine (HP.out.board).mono ?_
          rintro e wz ⟨rfl, rfl⟩
          go_wp2_with fail
          refine (HP.out.crowd (by omega) T).mono ?_
          rintro e w5 ⟨q5, c5, rfl, hb⟩
          have HP1 := Lib.hid (HP.out.step hb)
          clear hb HP
          go_wp2_with fail
          refine (HP1.out.board).mono ?_
          rintro e wz ⟨rfl, rfl⟩
          go_wp2_with fail
          refine (failsN_any HP1.out.mast.board T).mono ?_
          rintro e wz ⟨rfl, rfl⟩

          have HDO := Lib.hid (HP1.out.isdone (by omega) T HTL.out)
          obtain ⟨is, his⟩ : ∃ n, Board.isN M.b T = n := ⟨_, rfl⟩
          rw [his] at HDO HFA
          clear his
          go_wp2_with fail
          refine HDO.out.mono ?_
          rintro e w5b ⟨rfl, hb⟩
          have HP2 := Lib.hid (HP1.out.step hb)
          clear hb HP1 HDO
          have HK4 := Lib.hid (show K < (M.lives.set K false).length ∧ (M.lives.set K false).getD K false = false ∧ K < ((M.lives.set K false).set K true).length ∧ ((M.lives.set K false).set K true).getD K false = true from ⟨by rw [List.length_set]; exact HKL.out, by rw [getD_set, if_pos ⟨rfl, HKL.out⟩], by rw [List.length_set, List.length_set]; exact HKL.out, by rw [getD_set, if_pos ⟨rfl, by rw [List.length_set]; exact HKL.out⟩]⟩)
          have hd := HP2.out.do_ (by omega) 4 (by omega) (K : Int) 0 []
          have HDN := Lib.hid (fun V => HP2.out.done (w' := V) ⟨4, K, 0⟩ [])
          rw [die_live K HKL.out HLIVE.out] at hd
          rw [show Sch.Master.do_ M ⟨4, K, 0⟩ [] = _ from die_live K HKL.out HLIVE.out] at HDN

          rw [show Sch.Master.at_ M (K : Int) = (T : Int) from by unfold Sch.Master.at_; rw [HAT.out]; rfl] at hd
          have HDIE := Lib.hid hd
          clear hd
          go_wp2_with fail
          refine HDIE.out.mono ?_
          rintro e w6 ⟨rfl, ht⟩
          have HQ := Lib.hid (HDN.out _ ht)
          clear ht HDIE HDN
          unfold ansV
          have hbk : Below w6.heap.size w6 (w6.alloc (.cells #[.int .i64 (T : Int), .bool false] 42)) := (Below.refl _ _).alloc (Nat.le_refl _) _
          have HQ1 := Lib.hid (HQ.out.step hbk)
          clear hbk HQ

          rw [HCR.out]
          obtain ⟨c1, hc1⟩ : ∃ n, Board.crowd (M.b.fail (K : Int)).1 T = n := ⟨_, rfl⟩
          have HCRW := Lib.hid (HQ1.out.crowd (by omega) T)
          rw [hc1] at HCRW ⊢
          obtain ⟨f1, hf1⟩ : ∃ n, Board.failsN M.b T = n := ⟨_, rfl⟩
          rw [hf1] at HFA ⊢
          have hcb : c1 ≤ 1000000 := by rw [← hc1]; exact Nat.le_trans (crowd_le _ _) (Nat.le_trans HQ1.out.fine.count (by omega))
          have hfb : f1 ≤ 1000000 := by rw [← hf1]; exact Nat.le_trans (failsN_le HFI.out T) (by omega)
          have hce : ((c1 : Int) != (c1 : Int) + 1 - 1) = false := by simp
          clear hc1 hf1 HCR
          have HP1 := HQ1
          clear HQ1
          rw [Int.natCast_add, Int.natCast_one]
          cases is with
          | true =>
            have hee : ((f1 : Int) != (f1 : Int)) = false := by simp
            go_wp2_with fail
            refine (HP1.out.board).mono ?_
            rintro e wz ⟨rfl, rfl⟩
            go_wp2_with fail
            refine HCRW.out.mono ?_
            rintro e w7 ⟨q7, c7, rfl, hb⟩
            have HP5 := Lib.hid (HP1.out.step hb)
            clear hb
            have hfl := failsN_any (HP5.out.mast.board) T
            rw [show Board.failsN _ T = f1 + 0 from HFA.out] at hfl
            have HFLS := Lib.hid hfl
            clear HCRW HP1 hfl HFA
            have HP1 := HP5
            clear HP5

            rw [show ((f1 + 0 : Nat) : Int) = (f1 : Int) from rfl] at HFLS
            go_wp2_with fail
            refine (HP1.out.board).mono ?_
            rintro e wz ⟨rfl, rfl⟩
            go_wp2_with fail
            refine HFLS.out.mono ?_
            rintro e wz ⟨rfl, rfl⟩
            clear HFLS
            go_wp2_with fail
            refine (HP1.out.board).mono ?_
            rintro e wz ⟨rfl, rfl⟩
            go_wp2_with fail
            have hat1 := at_any HP1.out.mast.board (K : Int) (WalkArith.wf_i64 (by omega))
            rw [show (M.b.fail (K : Int)).1.at_ (K : Int) = none from by rw [at_dropped (fail_tries _), if_pos rfl]] at hat1
            refine hat1.mono ?_
            clear hat1
            rintro e wz ⟨rfl, rfl⟩
            have hs1 : Sch.Master.do_ ⟨(M.b.fail (K : Int)).1, M.lives.set K false⟩ ⟨0, K, 0⟩ [] = (⟨(M.b.fail (K : Int)).1, M.lives.set K false⟩, ⟨0, false, 310⟩) := start_dead K HK4.out.1 HK4.out.2.1
            have hs2 : Sch.Master.do_ ⟨(M.b.fail (K : Int)).1, M.lives.set K false⟩ ⟨5, K, 0⟩ [] = (⟨(M.b.fail (K : Int)).1, (M.lives.set K false).set K true⟩, ⟨0, false, 0⟩) := wake_dead K HK4.out.1 HK4.out.2.1
            have hs3 : Sch.Master.do_ ⟨(M.b.fail (K : Int)).1, (M.lives.set K false).set K true⟩ ⟨5, K, 0⟩ [] = (⟨(M.b.fail (K : Int)).1, (M.lives.set K false).set K true⟩, ⟨0, false, 2⟩) := wake_live K HK4.out.2.2.1 HK4.out.2.2.2
            have hd1 := HP1.out.do_ (by omega) 0 (by omega) (K : Int) 0 []
            rw [hs1] at hd1
            have HD1 := Lib.hid hd1
            have HF1 := Lib.hid (HP1.out.fine)
            clear hd1 hs1
            go_wp2_with fail
            refine HD1.out.mono ?_
            rintro e w8 ⟨rfl, ht⟩
            have HQ1 := Lib.hid (HP1.out.to ht HP1.out.fine rfl)
            clear ht HD1 HP1
            unfold ansV
            go_wp2_with fail
            have hbk : Below w8.heap.size w8 (w8.alloc (.cells #[.int .i64 0, .bool false] 42)) := (Below.refl _ _).alloc (Nat.le_refl _) _
            have HP2 := Lib.hid (HQ1.out.step hbk)
            clear hbk HQ1
            generalize w8.alloc (.cells #[.int .i64 0, .bool false] 42) = v8 at *
            generalize w8.heap.size = g8 at *
            have hd2 := HP2.out.do_ (by omega) 5 (by omega) (K : Int) 0 []
            rw [hs2] at hd2
            refine hd2.mono ?_
            rintro e w9 ⟨rfl, ht⟩
            have HQ2 := Lib.hid (HP2.out.to ht HP2.out.fine (by simp))
            clear ht hd2 HP2 hs2
            unfold ansV
            go_wp2_with fail
            have hbk : Below w9.heap.size w9 (w9.alloc (.cells #[.int .i64 0, .bool false] 42)) := (Below.refl _ _).alloc (Nat.le_refl _) _
            have HP3 := Lib.hid (HQ2.out.step hbk)
            clear hbk HQ2
            generalize w9.alloc (.cells #[.int .i64 0, .bool false] 42) = v9 at *
            generalize w9.heap.size = g9 at *
            have hd3 := HP3.out.do_ (by omega) 5 (by omega) (K : Int) 0 []
            rw [hs3] at hd3
            refine hd3.mono ?_
            rintro e w10 ⟨rfl, ht⟩
            have HQ3 := Lib.hid (HP3.out.to ht HP3.out.fine (by simp))
            clear ht hd3 HP3 hs3
            unfold ansV
            go_wp2_with fail
            have hbk : Below w10.heap.size w10 (w10.alloc (.cells #[.int .i64 0, .bool false] 42)) := (Below.refl _ _).alloc (Nat.le_refl _) _
            have HP4 := Lib.hid (HQ3.out.step hbk)
            clear hbk HQ3
            generalize w10.alloc (.cells #[.int .i64 0, .bool false] 42) = v10 at *
            generalize w10.heap.size = g10 at *
            refine (HAL.out _ HP4.out.mast.doors).mono ?_
            rintro e w11 ⟨rfl, hb⟩
            have HB5 := Lib.hid (HP4.out.below.trans (hb.mono HP4.out.below.size))
            clear hb HP4
            go_wp2_with fail
            go_ret
            exact ⟨rfl, HB5.out⟩

          | false =>
            have hee : ((f1 : Int) + 1 != (f1 : Int) + 1) = false := by simp
            go_wp2_with fail
            refine (HP1.out.board).mono ?_
            rintro e wz ⟨rfl, rfl⟩
            go_wp2_with fail
            refine HCRW.out.mono ?_
            rintro e w7 ⟨q7, c7, rfl, hb⟩
            have HP5 := Lib.hid (HP1.out.step hb)
            clear hb
            have hfl := failsN_any (HP5.out.mast.board) T
            rw [show Board.failsN _ T = f1 + 1 from HFA.out] at hfl
            have HFLS := Lib.hid hfl
            clear HCRW HP1 hfl HFA
            have HP1 := HP5
            clear HP5

            rw [Int.natCast_add, Int.natCast_one] at HFLS
            go_wp2_with fail
            refine (HP1.out.board).mono ?_
            rintro e wz ⟨rfl, rfl⟩
            go_wp2_with fail
            refine HFLS.out.mono ?_
            rintro e wz ⟨rfl, rfl⟩
            clear HFLS
            go_wp2_with fail
            refine (HP1.out.board).mono ?_
            rintro e wz ⟨rfl, rfl⟩
            go_wp2_with fail
            have hat1 := at_any HP1.out.mast.board (K : Int) (WalkArith.wf_i64 (by omega))
            rw [show (M.b.fail (K : Int)).1.at_ (K : Int) = none from by rw [at_dropped (fail_tries _), if_pos rfl]] at hat1
            refine hat1.mono ?_
            clear hat1
            rintro e wz ⟨rfl, rfl⟩
            have hs1 : Sch.Master.do_ ⟨(M.b.fail (K : Int)).1, M.lives.set K false⟩ ⟨0, K, 0⟩ [] = (⟨(M.b.fail (K : Int)).1, M.lives.set K false⟩, ⟨0, false, 310⟩) := start_dead K HK4.out.1 HK4.out.2.1
            have hs2 : Sch.Master.do_ ⟨(M.b.fail (K : Int)).1, M.lives.set K false⟩ ⟨5, K, 0⟩ [] = (⟨(M.b.fail (K : Int)).1, (M.lives.set K false).set K true⟩, ⟨0, false, 0⟩) := wake_dead K HK4.out.1 HK4.out.2.1
            have hs3 : Sch.Master.do_ ⟨(M.b.fail (K : Int)).1, (M.lives.set K false).set K true⟩ ⟨5, K, 0⟩ [] = (⟨(M.b.fail (K : Int)).1, (M.lives.set K false).set K true⟩, ⟨0, false, 2⟩) := wake_live K HK4.out.2.2.1 HK4.out.2.2.2
            have hd1 := HP1.out.do_ (by omega) 0 (by omega) (K : Int) 0 []
            rw [hs1] at hd1
            have HD1 := Lib.hid hd1
            have HF1 := Lib.hid (HP1.out.fine)
            clear hd1 hs1
            go_wp2_with fail
            refine HD1.out.mono ?_
            rintro e w8 ⟨rfl, ht⟩
            have HQ1 := Lib.hid (HP1.out.to ht HP1.out.fine rfl)
            clear ht HD1 HP1
            unfold ansV
            go_wp2_with fail
            have hbk : Below w8.heap.size w8 (w8.alloc (.cells #[.int .i64 0, .bool false] 42)) := (Below.refl _ _).alloc (Nat.le_refl _) _
            have HP2 := Lib.hid (HQ1.out.step hbk)
            clear hbk HQ1
            generalize w8.alloc (.cells #[.int .i64 0, .bool false] 42) = v8 at *
            generalize w8.heap.size = g8 at *
            have hd2 := HP2.out.do_ (by omega) 5 (by omega) (K : Int) 0 []
            rw [hs2] at hd2
            refine hd2.mono ?_
            rintro e w9 ⟨rfl, ht⟩
            have HQ2 := Lib.hid (HP2.out.to ht HP2.out.fine (by simp))
            clear ht hd2 HP2 hs2
            unfold ansV
            go_wp2_with fail
            have hbk : Below w9.heap.size w9 (w9.alloc (.cells #[.int .i64 0, .bool false] 42)) := (Below.refl _ _).alloc (Nat.le_refl _) _
            have HP3 := Lib.hid (HQ2.out.step hbk)
            clear hbk HQ2
            generalize w9.alloc (.cells #[.int .i64 0, .bool false] 42) = v9 at *
            generalize w9.heap.size = g9 at *
            have hd3 := HP3.out.do_ (by omega) 5 (by omega) (K : Int) 0 []
            rw [hs3] at hd3
            refine hd3.mono ?_
            rintro e w10 ⟨rfl, ht⟩
            have HQ3 := Lib.hid (HP3.out.to ht HP3.out.fine (by simp))
            clear ht hd3 HP3 hs3
            unfold ansV
            go_wp2_with fail
            have hbk : Below w10.heap.size w10 (w10.alloc (.cells #[.int .i64 0, .bool false] 42)) := (Below.refl _ _).alloc (Nat.le_refl _) _
            have HP4 := Lib.hid (HQ3.out.step hbk)
            clear hbk HQ3
            generalize w10.alloc (.cells #[.int .i64 0, .bool false] 42) = v10 at *
            generalize w10.heap.size = g10 at *
            refine (HAL.out _ HP4.out.mast.doors).mono ?_
            rintro e w11 ⟨rfl, hb⟩
            have HB5 := Lib.hid (HP4.out.below.trans (hb.mono HP4.out.below.size))
            clear hb HP4
            go_wp2_with fail
            go_ret
            exact ⟨rfl, HB5.out⟩
      · have HNB := Lib.hid (snew_bad q qc L 8 N _ HN.out HLEN.out (fun h => hmay h.1))
        clear hmay
        go_wp2_with fail
        rw [HN3.out]
        refine HNB.out.mono ?_
        rintro e w3 ⟨rfl, hb⟩
        have HB3 := Lib.hid (HB.out.trans (hb.mono HB.out.size))
        have HD3 := Lib.hid (HD2.out.below hb)
        clear hb
        go_wp2_with fail
        refine (HAL.out _ HD3.out).mono ?_
        rintro e w4 ⟨rfl, hb⟩
        have HB4 := Lib.hid (HB3.out.trans (hb.mono HB3.out.size))
        clear hb
        go_wp2_with fail
        go_ret
        exact ⟨rfl, HB4.out⟩
set_option maxRecDepth 100000 in
theorem schedDies_any {H : Type} {enc : TypeId × Value → H} {base0 base2 : Nat} (W : World) (hD : Doors W) (v0 : Value) (d0 : DataW H) (p0 : List MemPlace)
    (o0 : Value.okWide Tryd.prog W .any base0 22 v0) (h0 : DataW.Trod enc Tryd.prog W 0 (fun _ => true) true 22 v0 d0 p0) (z0 : ∀ n ∈ DataW.weights Tryd.prog 22 d0, (decide (n ≤ reachBytes)) = true)
    (r : Int) (hr : (Lit.int .u8 r).wf = true)
    (v2 : Value) (d2 : DataW H) (p2 : List MemPlace) (o2 : Value.okWide Tryd.prog W .any base2 23 v2) (h2 : DataW.Trod enc Tryd.prog W 0 (fun _ => true) true 23 v2 d2 p2) (_ : ∀ n ∈ DataW.weights Tryd.prog 23 d2, (decide (n ≤ reachBytes)) = true)
    (x : Int) (hx : (Lit.int .u8 x).wf = true) :
    Calls Tryd.prog 3 #[v0, .int .u8 r, v2, .int .u8 x] W fun e w' => e = .returned (.bool true) ∧ Below W.heap.size W w' := by
  obtain ⟨a, cap, L, rfl, g1, g2⟩ := needs_of_trod o0 h0 z0
  obtain ⟨c, cap', l, rfl, k1, k2, k3⟩ := picks_of_trod o2 h2
  exact schedDies_walk W hD a c cap cap' L r l x hr hx g1 g2 k1 k2 k3
end Go.Proofs.YtgmhglcdifhimaaDoor
