/- maslinlaw30.same, walked. -/
import Derived.Test.YtgmhglcdifhimaaTaskDuo
namespace Go.Proofs.Ytgmhglcdifhimaa
open Go.RowKit Go.Maps Go.Sort
open Tsk

section
variable {w0 w w' w1 : World} {p m r : Nat} {lv : Value} {nvs : List Value} {b b' : Board} {k k' : Nat}
set_option maxRecDepth 100000 in
set_option maxHeartbeats 8000000 in
theorem same30b_any (h : DuoT w0 w p m lv nvs r b k) (hk : k ≤ 1000) :
    Calls Try.prog 24 #[.pointer (some ⟨p, 0, none⟩), .pointer (some ⟨r, 0, none⟩)] w fun e w' => e = .returned (.bool true) ∧ Below w.heap.size w w' := by
  have HD := Lib.hid h
  obtain ⟨rlv, rtv, rnvs, hR⟩ := h.ref
  have HR := Lib.hid hR
  have hlen := h.fine.len
  have hcnt := h.fine.count
  obtain ⟨ql, cl, rfl⟩ := slice_len hR.row
  obtain ⟨qt, ct, rfl⟩ := slice_len hR.tries
  have HRL := Lib.hid (rev_len b)
  have HC := Lib.hid (fun (V : World) (hb : Below w.heap.size w V) => (hR.below hb).cells)
  have hrlt := blk_lt hR.struct
  clear h hR
  go_enter Try.func24, Try.ntmps24
  obtain ⟨c0, _, _, _, _⟩ := HC.out w (Below.refl _ _)
  go_wp2_with fail
  clear c0
  go_loopw [5] (fun i wr => ∃ j : Nat, j ≤ b.l.length ∧ i = .int .i64 j ∧ Below w.heap.size w wr) (fun i _ => b.l.length - (intOf i).toNat)
  case atStart => exact ⟨0, Nat.zero_le _, rfl, Below.refl _ _⟩
  case round =>
    obtain ⟨j, hj, rfl, hb⟩ := hrel
    have HB := Lib.hid hb
    obtain ⟨c0, c1, _, c3, _⟩ := HC.out wr hb
    clear hb
    by_cases hlt : j < b.l.length
    · have HD1 := Lib.hid (HD.out.step HB.out)
      have HS := Lib.hid (stateP_in HD1.out.board HD1.out.fine (by omega) j hlt)
      obtain ⟨y, hy⟩ : ∃ y, b.l[j] = y := ⟨_, rfl⟩
      have HV := Lib.hid (fun (V : World) (hd : DuoT w0 V p m lv nvs r b k) => value_in hd.board j hlt)
      have HFL := Lib.hid (fun (V : World) (hd : DuoT w0 V p m lv nvs r b k) => fails_in hd.board j hlt)
      have HWK := Lib.hid (fun (V : World) (hd : DuoT w0 V p m lv nvs r b k) => workers_in hd.board (by omega) j hlt)
      have HRS := Lib.hid (fun (V : World) (hd : RefB V r (.slice ql b.l.length cl) (.slice qt b.tries.length ct) rnvs b) => rstate_in hd HD1.out.fine (by omega) j hlt)
      have HRW := Lib.hid (fun (V : World) (hd : RefB V r (.slice ql b.l.length cl) (.slice qt b.tries.length ct) rnvs b) => rworkers_any hd HD1.out.fine (by omega) j)
      have hwl := workers_length HD1.out.fine j
      have hbl := HD1.out.blank y (hy ▸ List.getElem_mem hlt)
      rw [hy] at HV HFL
      have HY := Lib.hid hy
      obtain ⟨g, cap, hg, hix, _, _, _, _, _⟩ := (HR.out.below HB.out).index j hlt
      injection hg with hg1 _ hg2
      subst hg1; subst hg2
      have HIX := Lib.hid (fun (V : World) (hd : RefB V r (.slice (some ⟨g, 0, none⟩) b.l.length cl) (.slice qt b.tries.length ct) rnvs b) => (by
        obtain ⟨g', cap', hg', _, _, e1, e2, e3, _⟩ := hd.index j hlt
        injection hg' with hg1 _ _
        injection hg1 with hg1
        injection hg1 with hg1 _ _
        subst hg1
        rw [hy] at e1 e2 e3
        exact ⟨e1, e2, e3⟩ : V.cell? ⟨g, j * 4 + 1, none⟩ = some (.bool y.is) ∧ V.cell? ⟨g, j * 4 + 2, none⟩ = some (.string (bs y.value)) ∧ V.cell? ⟨g, j * 4 + 3, none⟩ = some (.int .i64 (y.fails : Int))))
      have HRR := Lib.hid (fun (V : World) (hb : Below wr.heap.size wr V) => (HR.out.below HB.out).below hb)
      clear hy
      obtain ⟨ws, hws⟩ : ∃ ws, b.workers j = ws := ⟨_, rfl⟩
      rw [hws] at HWK HRW hwl
      obtain ⟨st, hst⟩ : ∃ st, b.state j = st := ⟨_, rfl⟩
      rw [hst] at HS HRS
      clear hws hst
      obtain ⟨yn, yi, yv, yf⟩ := y
      simp only at HIX hbl HV HFL
      have HC0 := Lib.hid (fun (V : World) (hb : Below wr.heap.size wr V) => (hb.cell (p := ⟨r, 0, none⟩) (block_lt_of_cell c0)).trans c0)
      have hixr := run_index_slice Try.prog 77 82 Try.underlying77 4 (by kernel_rfl) ⟨g, 0, none⟩ b.l.length cl j hlt
      rw [add_plain] at hixr
      clear c1 c3
      cases yi with
      | true =>
        rw [if_pos rfl] at HV
        clear hbl
        go_wp2_with fail
        refine HS.out.mono ?_
        rintro e w2 ⟨rfl, hb2⟩
        have HB2 := Lib.hid hb2
        have H2 := Lib.hid (HD1.out.step hb2)
        obtain ⟨e1, e2, e3⟩ := HIX.out w2 (HRR.out w2 hb2)
        have c0w := HC0.out w2 hb2
        clear hb2 c0
        go_wp2_with fail
        refine (HV.out _ H2.out).mono ?_
        rintro e w3 ⟨rfl, rfl⟩
        go_wp2_with fail
        have HB2D := Lib.hid HB2.out.drew
        have KP := Lib.hid (fun (V : World) (hb : Below wr.heap.size wr V) => (⟨HC0.out V hb, (HIX.out V (HRR.out V hb)).2.1, (HIX.out V (HRR.out V hb)).2.2⟩ : V.cell? ⟨r, 0, none⟩ = some (.slice (some ⟨g, 0, none⟩) b.l.length cl) ∧ V.cell? ⟨g, j * 4 + 2, none⟩ = some (.string (bs yv)) ∧ V.cell? ⟨g, j * 4 + 3, none⟩ = some (.int .i64 (yf : Int))))
        clear c0w e1 e2 e3
        go_region_held3 (fun V => V.cell? ⟨r, 0, none⟩ = some (.slice (some ⟨g, 0, none⟩) b.l.length cl) ∧ V.cell? ⟨g, j * 4 + 2, none⟩ = some (.string (bs yv)) ∧ V.cell? ⟨g, j * 4 + 3, none⟩ = some (.int .i64 (yf : Int)))
          (first | exact KP.out _ HB2D.out | exact KP.out _ HBA.out | exact KP.out _ HBB.out | exact KP.out _ HBC.out | exact KP.out _ HBE.out)
          (first
            | (go_at_call 40; refine (HRS.out _ (HRR.out _ HB2D.out)).mono ?_; rintro e wa ⟨rfl, ha⟩; have HBA := Lib.hid (HB2D.out.trans (ha.mono HB2D.out.size)); clear ha)
            | (go_at_call 27; refine (HFL.out _ (HD1.out.step HBA.out)).mono ?_; rintro e wf ⟨rfl, rfl⟩)
            | (go_at_call 16; refine (HWK.out _ (HD1.out.step HBA.out)).mono ?_; rintro e wb ⟨q1, cq1, rfl, hat1, hb1, _⟩; have HBB := Lib.hid (HBA.out.trans (hb1.mono HBA.out.size)); have HAT1 := Lib.hid hat1; clear hat1 hb1)
            | (go_at_call 41; refine (HRW.out _ (HRR.out _ HBB.out)).mono ?_; rintro e wc ⟨q2, cq2, rfl, hat2, hb2, _⟩; have HBC := Lib.hid (HBB.out.trans (hb2.mono HBB.out.size)); have HAT2 := Lib.hid hat2; have HAT3 := Lib.hid (HAT1.out.below' hb2); clear hat2 hb2)
            | (go_at_call 28; refine (same30_any q1 q2 cq1 cq2 ws ws _ HAT3.out HAT2.out (by omega) (by omega)).mono ?_; rintro e wd ⟨rfl, hb3⟩; have HBE := Lib.hid (HBC.out.trans (hb3.mono HBC.out.size)); clear hb3))
        go_wp2_with fail
        go_roundw
        case rel => exact ⟨j + 1, by omega, by go_num, HB.out.trans (HBE.out.mono HB.out.size)⟩
        case measure => simp [intOf]; omega
      | false =>
        obtain rfl := hbl rfl
        rw [if_neg (by decide)] at HV
        clear hbl
        go_wp2_with fail
        refine HS.out.mono ?_
        rintro e w2 ⟨rfl, hb2⟩
        have HB2 := Lib.hid hb2
        have H2 := Lib.hid (HD1.out.step hb2)
        obtain ⟨e1, e2, e3⟩ := HIX.out w2 (HRR.out w2 hb2)
        have c0w := HC0.out w2 hb2
        clear hb2 c0
        go_wp2_with fail
        refine (HV.out _ H2.out).mono ?_
        rintro e w3 ⟨rfl, rfl⟩
        go_wp2_with fail
        have HB2D := Lib.hid HB2.out.drew
        have KP := Lib.hid (fun (V : World) (hb : Below wr.heap.size wr V) => (⟨HC0.out V hb, (HIX.out V (HRR.out V hb)).2.1, (HIX.out V (HRR.out V hb)).2.2⟩ : V.cell? ⟨r, 0, none⟩ = some (.slice (some ⟨g, 0, none⟩) b.l.length cl) ∧ V.cell? ⟨g, j * 4 + 2, none⟩ = some (.string (bs [])) ∧ V.cell? ⟨g, j * 4 + 3, none⟩ = some (.int .i64 (yf : Int))))
        clear c0w e1 e2 e3
        go_region_held3 (fun V => V.cell? ⟨r, 0, none⟩ = some (.slice (some ⟨g, 0, none⟩) b.l.length cl) ∧ V.cell? ⟨g, j * 4 + 2, none⟩ = some (.string (bs [])) ∧ V.cell? ⟨g, j * 4 + 3, none⟩ = some (.int .i64 (yf : Int)))
          (first | exact KP.out _ HB2D.out | exact KP.out _ HBA.out | exact KP.out _ HBB.out | exact KP.out _ HBC.out | exact KP.out _ HBE.out)
          (first
            | (go_at_call 40; refine (HRS.out _ (HRR.out _ HB2D.out)).mono ?_; rintro e wa ⟨rfl, ha⟩; have HBA := Lib.hid (HB2D.out.trans (ha.mono HB2D.out.size)); clear ha)
            | (go_at_call 27; refine (HFL.out _ (HD1.out.step HBA.out)).mono ?_; rintro e wf ⟨rfl, rfl⟩)
            | (go_at_call 16; refine (HWK.out _ (HD1.out.step HBA.out)).mono ?_; rintro e wb ⟨q1, cq1, rfl, hat1, hb1, _⟩; have HBB := Lib.hid (HBA.out.trans (hb1.mono HBA.out.size)); have HAT1 := Lib.hid hat1; clear hat1 hb1)
            | (go_at_call 41; refine (HRW.out _ (HRR.out _ HBB.out)).mono ?_; rintro e wc ⟨q2, cq2, rfl, hat2, hb2, _⟩; have HBC := Lib.hid (HBB.out.trans (hb2.mono HBB.out.size)); have HAT2 := Lib.hid hat2; have HAT3 := Lib.hid (HAT1.out.below' hb2); clear hat2 hb2)
            | (go_at_call 28; refine (same30_any q1 q2 cq1 cq2 ws ws _ HAT3.out HAT2.out (by omega) (by omega)).mono ?_; rintro e wd ⟨rfl, hb3⟩; have HBE := Lib.hid (HBC.out.trans (hb3.mono HBC.out.size)); clear hb3))
        go_wp2_with fail
        go_roundw
        case rel => exact ⟨j + 1, by omega, by go_num, HB.out.trans (HBE.out.mono HB.out.size)⟩
        case measure => simp [intOf]; omega
    · obtain rfl : j = b.l.length := by omega
      have hcnt2 : b.tries.length ≤ k := hcnt
      go_wp2_with fail
      go_loopw [11] (fun i wx => ∃ j : Nat, j ≤ b.tries.length ∧ i = .int .i64 j ∧ Below w.heap.size w wx) (fun i _ => b.tries.length - (intOf i).toNat)
      case atStart => exact ⟨0, Nat.zero_le _, rfl, HB.out⟩
      case round =>
        clear HB c0 c1 c3
        obtain ⟨j, hj, rfl, hb⟩ := hrel
        have HB := Lib.hid hb
        obtain ⟨c0, c1, _, c3, _⟩ := HC.out wr hb
        clear hb
        have HD1 := Lib.hid (HD.out.step HB.out)
        by_cases hlt2 : j < b.tries.length
        · have hlr : j < b.tries.reverse.length := by rw [HRL.out]; exact hlt2
          obtain ⟨g, cap, hg, hix, d0, d1⟩ := (HR.out.below HB.out).try_ j hlr
          have HM := Lib.hid (at_of_mem HD1.out.fine.nodup (List.mem_reverse.1 (List.getElem_mem hlr)))
          generalize b.tries.reverse[j] = q0 at *
          obtain ⟨qx, qt2⟩ := q0
          simp only at d0 d1 HM
          have HA := Lib.hid (at_any HD1.out.board qx (HD1.out.board.wf_at HM.out))
          rw [HM.out] at HA
          simp only [Option.getD_some, Option.isSome_some] at HA
          clear hg hlr
          go_wp2_with fail
          refine HA.out.mono ?_
          rintro e w2 ⟨rfl, rfl⟩
          go_wp2_with fail
          go_roundw
          case rel => exact ⟨j + 1, by omega, by go_num, HB.out⟩
          case measure => simp [intOf]; omega
        · obtain rfl : j = b.tries.length := by omega
          have HO := Lib.hid (over_any HD1.out.board)
          have HRD := Lib.hid (ready_any HD1.out.board HD1.out.fine (by omega))
          have HRR := Lib.hid (fun (V : World) (hb : Below wr.heap.size wr V) => rready_any ((HR.out.below HB.out).below hb) HD1.out.fine (by omega))
          have HDN := Lib.hid (fun (V : World) (hb : Below wr.heap.size wr V) => done_any (HD1.out.step hb).board HD1.out.fine.len)
          have HRN := Lib.hid (fun (V : World) (hb : Below wr.heap.size wr V) => rdone_any ((HR.out.below HB.out).below hb) HD1.out.fine)
          have hrl : b.ready.length ≤ 4096 := by
            have h1 : b.ready.length ≤ b.l.length := by unfold Board.ready; have := List.length_filter_le (fun t => b.state t == 1) (List.range b.l.length); rwa [List.length_range] at this
            omega
          have hnl : (numsI b.ready).length = b.ready.length := numsI_len _
          have HNL := Lib.hid hnl
          rw [← hnl] at HRD
          have hrl2 : (numsI b.ready).length ≤ 4096 := by omega
          clear hnl hrl
          generalize numsI b.ready = rd at *
          generalize b.done = dn at *
          obtain ⟨fo, hfo⟩ : ∃ fo, b.failed = fo := ⟨_, rfl⟩
          rw [hfo] at HO c3
          clear hfo
          cases fo with
          | none =>
            replace c3 : wr.cell? ⟨r, 3, none⟩ = some (.int .i64 (-1)) := c3
            go_wp2_with fail
            refine HO.out.mono ?_
            simp only [Option.getD_none, Option.isSome_none]
            rintro e w2 ⟨rfl, rfl⟩
            rw [show ((0 : Nat) : Int) = 0 from rfl]
            have hmx : Sem.run Try.prog (Builtin.max_ #[3, 3] 3 #[.int .i64 (-1), .int .i64 0]) wr = .ok (.int .i64 0) wr := rfl
            go_wp2_with fail
            refine HRD.out.mono ?_
            rintro e w3 ⟨q1, cq1, rfl, hat1, hb1, _⟩
            have HB3 := Lib.hid hb1; have HAT1 := Lib.hid hat1
            clear hat1 hb1
            go_wp2_with fail
            refine (HRR.out _ HB3.out).mono ?_
            rintro e w4 ⟨q2, cq2, rfl, hat2, hb2, _⟩
            have HB4 := Lib.hid (HB3.out.trans (hb2.mono HB3.out.size)); have HAT2 := Lib.hid hat2; have HAT3 := Lib.hid (HAT1.out.below' hb2)
            clear hat2 hb2
            go_wp2_with fail
            refine (same30_any q1 q2 cq1 cq2 rd rd _ HAT3.out HAT2.out (by omega) (by omega)).mono ?_
            rintro e w5 ⟨rfl, hb⟩
            have HB5 := Lib.hid (HB4.out.trans (hb.mono HB4.out.size))
            clear hb
            go_wp2_with fail
            refine (HDN.out _ HB5.out).mono ?_
            rintro e w6 ⟨rfl, hb⟩
            have HB6 := Lib.hid (HB5.out.trans (hb.mono HB5.out.size))
            clear hb
            go_wp2_with fail
            refine (HRN.out _ HB6.out).mono ?_
            rintro e w7 ⟨rfl, rfl⟩
            go_wp2_with fail
            go_ret
            exact ⟨by simp, HB.out.trans (HB6.out.mono HB.out.size)⟩
          | some f =>
            replace c3 : wr.cell? ⟨r, 3, none⟩ = some (.int .i64 (f : Int)) := c3
            go_wp2_with fail
            refine HO.out.mono ?_
            simp only [Option.getD_some, Option.isSome_some]
            rintro e w2 ⟨rfl, rfl⟩
            go_wp2_with fail
            refine HRD.out.mono ?_
            rintro e w3 ⟨q1, cq1, rfl, hat1, hb1, _⟩
            have HB3 := Lib.hid hb1; have HAT1 := Lib.hid hat1
            clear hat1 hb1
            go_wp2_with fail
            refine (HRR.out _ HB3.out).mono ?_
            rintro e w4 ⟨q2, cq2, rfl, hat2, hb2, _⟩
            have HB4 := Lib.hid (HB3.out.trans (hb2.mono HB3.out.size)); have HAT2 := Lib.hid hat2; have HAT3 := Lib.hid (HAT1.out.below' hb2)
            clear hat2 hb2
            go_wp2_with fail
            refine (same30_any q1 q2 cq1 cq2 rd rd _ HAT3.out HAT2.out (by omega) (by omega)).mono ?_
            rintro e w5 ⟨rfl, hb⟩
            have HB5 := Lib.hid (HB4.out.trans (hb.mono HB4.out.size))
            clear hb
            go_wp2_with fail
            refine (HDN.out _ HB5.out).mono ?_
            rintro e w6 ⟨rfl, hb⟩
            have HB6 := Lib.hid (HB5.out.trans (hb.mono HB5.out.size))
            clear hb
            go_wp2_with fail
            refine (HRN.out _ HB6.out).mono ?_
            rintro e w7 ⟨rfl, rfl⟩
            go_wp2_with fail
            go_ret
            exact ⟨by simp, HB.out.trans (HB6.out.mono HB.out.size)⟩
end
end Go.Proofs.Ytgmhglcdifhimaa
