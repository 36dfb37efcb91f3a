/- The document's master (maslinref31): Do, walked. -/
import Derived.Test.YtgmhglcdifhimaaDoorSchedRefDo
namespace Go.Proofs.YtgmhglcdifhimaaDoor
open Go.RowKit Go.Maps Go.Sort
open Tsk

section
variable {w w' w1 w2 : World} {R r k sb : Nat} {vv vv' vv2 : Value} {M M' M2 : Sch.Master} {pk ev : List Value}
theorem RMast.commit_ (h : RMast w R r vv M) (hF : M.b.Fine k) (hk : k ≤ 1000000) (x : Int) (v : List UInt8) : Calls Tryd.prog 51 #[.pointer (some ⟨r, 0, none⟩), .int .i64 x, .string (bs v)] w fun e w' => e = .returned (.tuple #[.bool (M.b.commit x v).2.1, .int .i64 (M.b.commit x v).2.2]) ∧ RMastTo w w' R r vv vv ⟨(M.b.commit x v).1, M.lives⟩ := by
  obtain ⟨lv, tv, nvs, hB⟩ := h.board
  exact (rcommit_in hB hF hk x v).mono fun e w' ⟨he, ht⟩ => ⟨he, h.boardTo ht⟩
theorem RMast.fail_ (h : RMast w R r vv M) (hF : M.b.Fine k) (hk : k ≤ 1000000) (x : Int) : Calls Tryd.prog 50 #[.pointer (some ⟨r, 0, none⟩), .int .i64 x] w fun e w' => e = .returned (.int .i64 (M.b.fail x).2) ∧ RMastTo w w' R r vv vv ⟨(M.b.fail x).1, M.lives⟩ := by
  obtain ⟨lv, tv, nvs, hB⟩ := h.board
  exact (rfail_in hB hF hk x).mono fun e w' ⟨he, ht⟩ => ⟨he, h.boardTo ht⟩
set_option maxRecDepth 100000 in
set_option maxHeartbeats 16000000 in
theorem rdo_any (h : RMast w R r vv M) (hF : M.b.Fine k) (hk : k ≤ 1000000) (hl : M.lives.length ≤ 16) (d : Nat) (hd : d < 256) (x t : Int) (s : List UInt8) :
    Calls Tryd.prog 27 #[.pointer (some ⟨R, 0, none⟩), .agg #[.int .u8 (d : Int), .int .i64 x, .int .i64 t], .string (bs s)] w fun e w' => e = .returned (ansV (M.do_ ⟨d, x, t⟩ s).2) ∧ ∃ vv', RMastTo w w' R r vv vv' (M.do_ ⟨d, x, t⟩ s).1 := by
  have H0 := Lib.hid (rboxes h (d : Int) x t)
  have HF := Lib.hid hF
  clear h hF
  go_enter Tryd.func27, Tryd.ntmps27
  go_upto_region 1 with fail
  generalize hsb : w.heap.size = sb at *
  generalize (w.alloc (.cells #[.int .u8 (d : Int), .int .i64 x, .int .i64 t] 46)).alloc (.cells #[.int .i64 0, .bool false] 42) = wi at *
  have H1 := Lib.hid H0.out.drew
  clear H0
  have x0 : wi.drew.cell? ⟨sb, 0, none⟩ = some (.int .u8 (d : Int)) := H1.out.pick.cell 0 (by simp [pickV])
  have x1 : wi.drew.cell? ⟨sb, 1, none⟩ = some (.int .i64 x) := H1.out.pick.cell 1 (by simp [pickV])
  have k1 : wi.drew.cell? ⟨R, 1, none⟩ = some vv := H1.out.mst.mast.cells.2.1
  obtain ⟨qv, cv, evv⟩ : ∃ q cap, vv = .slice q M.lives.length cap := by
    obtain ⟨q, c, e⟩ := slice_len H1.out.mst.mast.row
    exact ⟨q, c, e⟩
  by_cases hbad : 6 ≤ d ∨ x < 0 ∨ (M.lives.length : Int) ≤ x
  · have HL := Lib.hid (show M.do_ ⟨d, x, t⟩ s = (M, Sch.none_ 2) from by unfold Sch.Master.do_; rw [if_pos hbad])
    rw [evv] at k1
    have HEV := Lib.hid evv
    clear evv
    by_cases h6 : 6 ≤ d
    · have h6' : decide ((5 : Int) < (d : Int)) = true := by simp; omega
      go_region
      clear x0 x1 k1
      generalize wi.drew = w4 at *
      have e0 := H1.out.event.free 0; have e1 := H1.out.event.free 1
      have c0 : w4.cell? ⟨sb + 1, 0, none⟩ = some (.int .i64 0) := H1.out.event.cell 0 (by simp)
      have c1 : w4.cell? ⟨sb + 1, 1, none⟩ = some (.bool false) := H1.out.event.cell 1 (by simp)
      go_wp2_with fail
      have H5 := Lib.hid (H1.out.ev2 (.int .i64 0) (.bool false))
      (try simp only [Exit.inBlock, Exit.then])
      refine bodyPost_ret (event_out rfl _ _ (sb + 1) _ _ rfl H5.out.event) rfl ?_
      rw [HL.out]
      exact ⟨rfl, _, H5.out.mst⟩
    · have h6' : decide ((5 : Int) < (d : Int)) = false := by simp; omega
      by_cases h7 : x < 0
      · have h7' : decide (x < 0) = true := by simpa using h7
        go_region
        clear x0 x1 k1
        generalize wi.drew = w4 at *
        have e0 := H1.out.event.free 0; have e1 := H1.out.event.free 1
        have c0 : w4.cell? ⟨sb + 1, 0, none⟩ = some (.int .i64 0) := H1.out.event.cell 0 (by simp)
        have c1 : w4.cell? ⟨sb + 1, 1, none⟩ = some (.bool false) := H1.out.event.cell 1 (by simp)
        go_wp2_with fail
        have H5 := Lib.hid (H1.out.ev2 (.int .i64 0) (.bool false))
        (try simp only [Exit.inBlock, Exit.then])
        refine bodyPost_ret (event_out rfl _ _ (sb + 1) _ _ rfl H5.out.event) rfl ?_
        rw [HL.out]
        exact ⟨rfl, _, H5.out.mst⟩
      · have h7' : decide (x < 0) = false := by simpa using h7
        have h8' : decide ((M.lives.length : Int) ≤ x) = true := by simp; omega
        go_region
        clear x0 x1 k1
        generalize wi.drew = w4 at *
        have e0 := H1.out.event.free 0; have e1 := H1.out.event.free 1
        have c0 : w4.cell? ⟨sb + 1, 0, none⟩ = some (.int .i64 0) := H1.out.event.cell 0 (by simp)
        have c1 : w4.cell? ⟨sb + 1, 1, none⟩ = some (.bool false) := H1.out.event.cell 1 (by simp)
        go_wp2_with fail
        have H5 := Lib.hid (H1.out.ev2 (.int .i64 0) (.bool false))
        (try simp only [Exit.inBlock, Exit.then])
        refine bodyPost_ret (event_out rfl _ _ (sb + 1) _ _ rfl H5.out.event) rfl ?_
        rw [HL.out]
        exact ⟨rfl, _, H5.out.mst⟩
  · obtain ⟨i, rfl⟩ : ∃ i : Nat, x = (i : Int) := ⟨x.toNat, by omega⟩
    have hi : i < M.lives.length := by omega
    have h6' : decide ((5 : Int) < (d : Int)) = false := by simp; omega
    have h7' : decide ((i : Int) < 0) = false := by simp
    have h8' : decide (M.lives.length ≤ i) = false := by simp; omega
    rw [evv] at k1
    have HEV := Lib.hid evv
    clear evv
    go_region
    clear x0 x1 k1 h6' h7' h8'
    generalize wi.drew = wj at *
    go_upto_region 3 with fail
    have H2 := Lib.hid H1.out.drew
    obtain ⟨g, cap, ev, hix, hc⟩ := H2.out.mst.mast.slice (i := i) hi
    clear ev
    have x0 : wj.drew.cell? ⟨sb, 0, none⟩ = some (.int .u8 (d : Int)) := H2.out.pick.cell 0 (by simp [pickV])
    have x1 : wj.drew.cell? ⟨sb, 1, none⟩ = some (.int .i64 (i : Int)) := H2.out.pick.cell 1 (by simp [pickV])
    have k1 : wj.drew.cell? ⟨R, 1, none⟩ = some vv := H2.out.mst.mast.cells.2.1
    clear H1
    by_cases hdead : M.lives.getD i false = false ∧ d ≠ 5
    · have HL := Lib.hid (show M.do_ ⟨d, (i : Int), t⟩ s = (M, Sch.none_ 310) from by unfold Sch.Master.do_; rw [if_neg hbad, if_pos (by simpa using hdead)])
      rw [hdead.1] at hc
      have h5 : ((d : Int) != 5) = true := by simp; omega
      go_region
      clear x0 x1 k1 hc hix
      generalize wj.drew = w4 at *
      have e0 := H2.out.event.free 0; have e1 := H2.out.event.free 1
      have c0 : w4.cell? ⟨sb + 1, 0, none⟩ = some (.int .i64 0) := H2.out.event.cell 0 (by simp)
      have c1 : w4.cell? ⟨sb + 1, 1, none⟩ = some (.bool false) := H2.out.event.cell 1 (by simp)
      go_wp2_with fail
      have H5 := Lib.hid (H2.out.ev2 (.int .i64 0) (.bool false))
      (try simp only [Exit.inBlock, Exit.then])
      refine bodyPost_ret (event_out rfl _ _ (sb + 1) _ _ rfl H5.out.event) rfl ?_
      rw [HL.out]
      exact ⟨rfl, _, H5.out.mst⟩
    · have hlb : d = 5 ∨ M.lives.getD i false = true := by
        by_cases e : d = 5
        · exact .inl e
        · refine .inr ?_
          cases hg : M.lives.getD i false with
          | true => rfl
          | false => exact absurd ⟨hg, e⟩ hdead
      have HL := Lib.hid (show M.do_ ⟨d, (i : Int), t⟩ s = M.does d i t s from by unfold Sch.Master.do_; rw [if_neg hbad, if_neg (by simpa using hdead)]; rfl)
      clear hdead
      have KP := Lib.hid (fun (V : World) (vv1 : Value) (M1 : Sch.Master) (ev : List Value) (hs : RSt w V R r vv vv1 M1 sb (pickV d i t) ev) => (⟨hs.mst.mast.cells.1, hs.pick.cell 1 (by simp [pickV])⟩ : V.cell? ⟨R, 0, none⟩ = some (.pointer (some ⟨r, 0, none⟩)) ∧ V.cell? ⟨sb, 1, none⟩ = some (.int .i64 (i : Int))))
      have hd6 : d < 6 := by omega
      cases hlv : M.lives.getD i false with
      | true =>
        have hdd : d = 0 ∨ d = 1 ∨ d = 2 ∨ d = 3 ∨ d = 4 ∨ d = 5 := by omega
        clear hlb hd6 hbad hd
        rcases hdd with hdd | hdd | hdd | hdd | hdd | hdd
        · as_aux_lemma =>
            obtain rfl : d = 0 := hdd
            have hlv2 : M.lives.getD i false = true := hlv
            have HLV := Lib.hid hlv2
            rw [hlv2] at hc
            clear hlv hlv2
            have x0 : wj.drew.cell? ⟨sb, 0, none⟩ = some (.int .u8 0) := x0
            go_region
            clear x0 x1 k1 hc hix
            generalize wj.drew = wk at *
            go_upto_region 5 with fail
            have H3 := Lib.hid H2.out.drew
            have HA := Lib.hid (H3.out.mst.mast.at_ HF.out hk (i : Int))
            go_region_held3 (fun V => V.cell? ⟨R, 0, none⟩ = some (.pointer (some ⟨r, 0, none⟩)) ∧ V.cell? ⟨sb, 1, none⟩ = some (.int .i64 (i : Int)))
              (exact KP.out _ _ _ _ H3.out)
              (first | (go_at_call 48; refine HA.out.mono ?_; rintro e wb ⟨rfl, rfl⟩))
            clear HA H2
            generalize wk.drew = wl at *
            have x0 : wl.cell? ⟨sb, 0, none⟩ = some (.int .u8 0) := H3.out.pick.cell 0 (by simp [pickV])
            have x1 : wl.cell? ⟨sb, 1, none⟩ = some (.int .i64 (i : Int)) := H3.out.pick.cell 1 (by simp [pickV])
            have x2 : wl.cell? ⟨sb, 2, none⟩ = some (.int .i64 t) := H3.out.pick.cell 2 (by simp [pickV])
            have HQ := Lib.hid (show M.does 0 i t s = M.begin (i : Int) t 1 from rfl)
            have hB := rbegin_any H3.out.mst.mast HF.out hk 0 i t 1
            obtain ⟨⟨M2, a1, a2, a3⟩, hr⟩ : ∃ r, M.begin (i : Int) t 1 = r := ⟨_, rfl⟩
            rw [hr] at hB
            unfold ansV at hB
            have HR := Lib.hid hr
            have HB := Lib.hid hB
            clear hB hr
            generalize M.b.at_ (i : Int) = ao at *
            go_wp2_with fail
            refine HB.out.mono ?_
            rintro e wb ⟨rfl, g1⟩
            have H4 := Lib.hid (H3.out.turn g1)
            clear g1 HB H3 x0 x1 x2
            have e0 := H4.out.event.free 0; have e1 := H4.out.event.free 1
            have c0 := H4.out.event.cell 0 (by simp)
            have c1 := H4.out.event.cell 1 (by simp)
            simp only [List.getElem_cons_zero, List.getElem_cons_succ] at c0 c1
            go_wp2_with fail
            have H5 := Lib.hid (H4.out.ev2 (.int .i64 a1) (.bool a2))
            (try simp only [Exit.inBlock, Exit.then])
            refine bodyPost_ret (event_out rfl _ _ (sb + 1) _ _ rfl H5.out.event) rfl ?_
            rw [HL.out, HQ.out, HR.out]
            exact ⟨rfl, _, H5.out.mst⟩
        · as_aux_lemma =>
            obtain rfl : d = 1 := hdd
            have hlv2 : M.lives.getD i false = true := hlv
            have HLV := Lib.hid hlv2
            rw [hlv2] at hc
            clear hlv hlv2
            have x0 : wj.drew.cell? ⟨sb, 0, none⟩ = some (.int .u8 1) := x0
            go_region
            clear x0 x1 k1 hc hix
            generalize wj.drew = wk at *
            go_upto_region 5 with fail
            have H3 := Lib.hid H2.out.drew
            have HA := Lib.hid (H3.out.mst.mast.at_ HF.out hk (i : Int))
            go_region_held3 (fun V => V.cell? ⟨R, 0, none⟩ = some (.pointer (some ⟨r, 0, none⟩)) ∧ V.cell? ⟨sb, 1, none⟩ = some (.int .i64 (i : Int)))
              (exact KP.out _ _ _ _ H3.out)
              (first | (go_at_call 48; refine HA.out.mono ?_; rintro e wb ⟨rfl, rfl⟩))
            clear HA H2
            generalize wk.drew = wl at *
            have x0 : wl.cell? ⟨sb, 0, none⟩ = some (.int .u8 1) := H3.out.pick.cell 0 (by simp [pickV])
            have x1 : wl.cell? ⟨sb, 1, none⟩ = some (.int .i64 (i : Int)) := H3.out.pick.cell 1 (by simp [pickV])
            have x2 : wl.cell? ⟨sb, 2, none⟩ = some (.int .i64 t) := H3.out.pick.cell 2 (by simp [pickV])
            have HQ := Lib.hid (show M.does 1 i t s = M.begin (i : Int) t 2 from rfl)
            have hB := rbegin_any H3.out.mst.mast HF.out hk 1 i t 2
            obtain ⟨⟨M2, a1, a2, a3⟩, hr⟩ : ∃ r, M.begin (i : Int) t 2 = r := ⟨_, rfl⟩
            rw [hr] at hB
            unfold ansV at hB
            have HR := Lib.hid hr
            have HB := Lib.hid hB
            clear hB hr
            generalize M.b.at_ (i : Int) = ao at *
            go_wp2_with fail
            refine HB.out.mono ?_
            rintro e wb ⟨rfl, g1⟩
            have H4 := Lib.hid (H3.out.turn g1)
            clear g1 HB H3 x0 x1 x2
            have e0 := H4.out.event.free 0; have e1 := H4.out.event.free 1
            have c0 := H4.out.event.cell 0 (by simp)
            have c1 := H4.out.event.cell 1 (by simp)
            simp only [List.getElem_cons_zero, List.getElem_cons_succ] at c0 c1
            go_wp2_with fail
            have H5 := Lib.hid (H4.out.ev2 (.int .i64 a1) (.bool a2))
            (try simp only [Exit.inBlock, Exit.then])
            refine bodyPost_ret (event_out rfl _ _ (sb + 1) _ _ rfl H5.out.event) rfl ?_
            rw [HL.out, HQ.out, HR.out]
            exact ⟨rfl, _, H5.out.mst⟩
        · as_aux_lemma =>
            obtain rfl : d = 2 := hdd
            have hlv2 : M.lives.getD i false = true := hlv
            have HLV := Lib.hid hlv2
            rw [hlv2] at hc
            clear hlv hlv2
            have x0 : wj.drew.cell? ⟨sb, 0, none⟩ = some (.int .u8 2) := x0
            go_region
            clear x0 x1 k1 hc hix
            generalize wj.drew = wk at *
            go_upto_region 5 with fail
            have H3 := Lib.hid H2.out.drew
            have HA := Lib.hid (H3.out.mst.mast.at_ HF.out hk (i : Int))
            go_region_held3 (fun V => V.cell? ⟨R, 0, none⟩ = some (.pointer (some ⟨r, 0, none⟩)) ∧ V.cell? ⟨sb, 1, none⟩ = some (.int .i64 (i : Int)))
              (exact KP.out _ _ _ _ H3.out)
              (first | (go_at_call 48; refine HA.out.mono ?_; rintro e wb ⟨rfl, rfl⟩))
            clear HA H2
            generalize wk.drew = wl at *
            have x0 : wl.cell? ⟨sb, 0, none⟩ = some (.int .u8 2) := H3.out.pick.cell 0 (by simp [pickV])
            have x1 : wl.cell? ⟨sb, 1, none⟩ = some (.int .i64 (i : Int)) := H3.out.pick.cell 1 (by simp [pickV])
            have x2 : wl.cell? ⟨sb, 2, none⟩ = some (.int .i64 t) := H3.out.pick.cell 2 (by simp [pickV])
            cases hat : M.b.at_ (i : Int) with
            | none =>
              have HQ := Lib.hid (show M.does 2 i t s = (M, Sch.none_ 3) from by
                show M.finish (i : Int) s = _
                unfold Sch.Master.finish
                rw [commit_none hat s]
                rfl)
              clear hat
              have e0 := H3.out.event.free 0; have e1 := H3.out.event.free 1
              have c0 := H3.out.event.cell 0 (by simp)
              have c1 := H3.out.event.cell 1 (by simp)
              simp only [List.getElem_cons_zero, List.getElem_cons_succ] at c0 c1
              go_wp2_with fail
              have H5 := Lib.hid (H3.out.ev2 (.int .i64 0) (.bool false))
              (try simp only [Exit.inBlock, Exit.then])
              refine bodyPost_ret (event_out rfl _ _ (sb + 1) _ _ rfl H5.out.event) rfl ?_
              rw [HL.out, HQ.out]
              exact ⟨rfl, _, H5.out.mst⟩
            | some T =>
              have HAT := Lib.hid hat
              have hcs := (commit_some HF.out hat s).1
              obtain ⟨⟨b2, f2, e2⟩, hr⟩ : ∃ r, M.b.commit (i : Int) s = r := ⟨_, rfl⟩
              have HQ := Lib.hid (show M.does 2 i t s = (⟨b2, M.lives⟩, ⟨(T : Int), f2, 0⟩) from by
                show M.finish (i : Int) s = _
                unfold Sch.Master.finish Sch.Master.at_
                rw [hr] at hcs ⊢
                rw [if_pos hcs, hat]
                rfl)
              rw [hr] at hcs
              obtain rfl : e2 = 0 := hcs
              have HR := Lib.hid hr
              clear hat hr
              go_wp2_with fail
              have H4 := Lib.hid H3.out.drew
              have hA := H4.out.mst.mast.commit_ HF.out hk (i : Int) s
              rw [HR.out] at hA
              have HA := Lib.hid hA
              clear hA H3 x0 x1 x2
              go_region_held3 (fun V => V.cell? ⟨R, 0, none⟩ = some (.pointer (some ⟨r, 0, none⟩)) ∧ V.cell? ⟨sb, 1, none⟩ = some (.int .i64 (i : Int)))
                (first | exact KP.out _ _ _ _ H4.out | exact KP.out _ _ _ _ HTA.out)
                (first | (go_at_call 51; refine HA.out.mono ?_; rintro e wb ⟨rfl, g1⟩; have HTA := Lib.hid (H4.out.turn g1); clear g1))
              clear HA H4
              have e0 := HTA.out.event.free 0; have e1 := HTA.out.event.free 1
              have c0 := HTA.out.event.cell 0 (by simp)
              have c1 := HTA.out.event.cell 1 (by simp)
              simp only [List.getElem_cons_zero, List.getElem_cons_succ] at c0 c1
              go_wp2_with fail
              have H5 := Lib.hid (HTA.out.ev2 (.int .i64 (T : Int)) (.bool f2))
              (try simp only [Exit.inBlock, Exit.then])
              refine bodyPost_ret (event_out rfl _ _ (sb + 1) _ _ rfl H5.out.event) rfl ?_
              rw [HL.out, HQ.out]
              exact ⟨rfl, _, H5.out.mst⟩
        · as_aux_lemma =>
            obtain rfl : d = 3 := hdd
            have hlv2 : M.lives.getD i false = true := hlv
            have HLV := Lib.hid hlv2
            rw [hlv2] at hc
            clear hlv hlv2
            have x0 : wj.drew.cell? ⟨sb, 0, none⟩ = some (.int .u8 3) := x0
            go_region
            clear x0 x1 k1 hc hix
            generalize wj.drew = wk at *
            go_upto_region 5 with fail
            have H3 := Lib.hid H2.out.drew
            have HA := Lib.hid (H3.out.mst.mast.at_ HF.out hk (i : Int))
            go_region_held3 (fun V => V.cell? ⟨R, 0, none⟩ = some (.pointer (some ⟨r, 0, none⟩)) ∧ V.cell? ⟨sb, 1, none⟩ = some (.int .i64 (i : Int)))
              (exact KP.out _ _ _ _ H3.out)
              (first | (go_at_call 48; refine HA.out.mono ?_; rintro e wb ⟨rfl, rfl⟩))
            clear HA H2
            generalize wk.drew = wl at *
            have x0 : wl.cell? ⟨sb, 0, none⟩ = some (.int .u8 3) := H3.out.pick.cell 0 (by simp [pickV])
            have x1 : wl.cell? ⟨sb, 1, none⟩ = some (.int .i64 (i : Int)) := H3.out.pick.cell 1 (by simp [pickV])
            have x2 : wl.cell? ⟨sb, 2, none⟩ = some (.int .i64 t) := H3.out.pick.cell 2 (by simp [pickV])
            cases hat : M.b.at_ (i : Int) with
            | none =>
              have HQ := Lib.hid (show M.does 3 i t s = (M, Sch.none_ 3) from by
                show M.fail (i : Int) = _
                unfold Sch.Master.fail
                rw [fail_none hat]
                rfl)
              clear hat
              have e0 := H3.out.event.free 0; have e1 := H3.out.event.free 1
              have c0 := H3.out.event.cell 0 (by simp)
              have c1 := H3.out.event.cell 1 (by simp)
              simp only [List.getElem_cons_zero, List.getElem_cons_succ] at c0 c1
              go_wp2_with fail
              have H5 := Lib.hid (H3.out.ev2 (.int .i64 0) (.bool false))
              (try simp only [Exit.inBlock, Exit.then])
              refine bodyPost_ret (event_out rfl _ _ (sb + 1) _ _ rfl H5.out.event) rfl ?_
              rw [HL.out, HQ.out]
              exact ⟨rfl, _, H5.out.mst⟩
            | some T =>
              have HAT := Lib.hid hat
              have hcs : (M.b.fail (i : Int)).2 = 0 := by
                have := fail_zero HF.out (i : Int)
                rw [hat] at this
                exact of_decide_eq_true this
              obtain ⟨⟨b2, e2⟩, hr⟩ : ∃ r, M.b.fail (i : Int) = r := ⟨_, rfl⟩
              have HQ := Lib.hid (show M.does 3 i t s = (⟨b2, M.lives⟩, ⟨(T : Int), false, 0⟩) from by
                show M.fail (i : Int) = _
                unfold Sch.Master.fail Sch.Master.at_
                rw [hr] at hcs ⊢
                rw [if_pos hcs, hat]
                rfl)
              rw [hr] at hcs
              obtain rfl : e2 = 0 := hcs
              have HR := Lib.hid hr
              clear hat hr
              go_wp2_with fail
              have H4 := Lib.hid H3.out.drew
              have hA := H4.out.mst.mast.fail_ HF.out hk (i : Int)
              rw [HR.out] at hA
              have HA := Lib.hid hA
              clear hA H3 x0 x1 x2
              go_region_held3 (fun V => V.cell? ⟨R, 0, none⟩ = some (.pointer (some ⟨r, 0, none⟩)) ∧ V.cell? ⟨sb, 1, none⟩ = some (.int .i64 (i : Int)))
                (first | exact KP.out _ _ _ _ H4.out | exact KP.out _ _ _ _ HTA.out | exact KP.out _ _ _ _ HTS.out)
                (first | (go_at_call 50; refine HA.out.mono ?_; rintro e wb ⟨rfl, g1⟩; have HTA := Lib.hid (H4.out.turn g1); have ce0 : wb.cell? ⟨sb + 1, 0, none⟩ = some (.int .i64 0) := HTA.out.event.cell 0 (by simp); have ce1 : wb.cell? ⟨sb + 1, 1, none⟩ = some (.bool false) := HTA.out.event.cell 1 (by simp); have cf0 := HTA.out.event.free 0; have cf1 := HTA.out.event.free 1; have HTS := Lib.hid (HTA.out.ev2 (.int .i64 (T : Int)) (.bool false)); clear g1))
              go_wp2_with fail
              (try simp only [Exit.inBlock, Exit.then])
              refine bodyPost_ret (event_out rfl _ _ (sb + 1) _ _ rfl HTS.out.event) rfl ?_
              rw [HL.out, HQ.out]
              exact ⟨rfl, _, HTS.out.mst⟩
        · as_aux_lemma =>
            obtain rfl : d = 4 := hdd
            have hlv2 : M.lives.getD i false = true := hlv
            have HLV := Lib.hid hlv2
            rw [hlv2] at hc
            clear hlv hlv2
            have x0 : wj.drew.cell? ⟨sb, 0, none⟩ = some (.int .u8 4) := x0
            go_region
            clear x0 x1 k1 hc hix
            generalize wj.drew = wk at *
            go_upto_region 5 with fail
            have H3 := Lib.hid H2.out.drew
            have HA := Lib.hid (H3.out.mst.mast.at_ HF.out hk (i : Int))
            go_region_held3 (fun V => V.cell? ⟨R, 0, none⟩ = some (.pointer (some ⟨r, 0, none⟩)) ∧ V.cell? ⟨sb, 1, none⟩ = some (.int .i64 (i : Int)))
              (exact KP.out _ _ _ _ H3.out)
              (first | (go_at_call 48; refine HA.out.mono ?_; rintro e wb ⟨rfl, rfl⟩))
            clear HA H2
            generalize wk.drew = wl at *
            have x0 : wl.cell? ⟨sb, 0, none⟩ = some (.int .u8 4) := H3.out.pick.cell 0 (by simp [pickV])
            have x1 : wl.cell? ⟨sb, 1, none⟩ = some (.int .i64 (i : Int)) := H3.out.pick.cell 1 (by simp [pickV])
            have x2 : wl.cell? ⟨sb, 2, none⟩ = some (.int .i64 t) := H3.out.pick.cell 2 (by simp [pickV])
            cases hat : M.b.at_ (i : Int) with
            | none =>
              have HQ := Lib.hid (show M.does 4 i t s = (⟨M.b, M.lives.set i false⟩, ⟨0, false, 0⟩) from by
                show M.die i = _
                unfold Sch.Master.die Sch.Master.at_
                rw [fail_none hat, hat]
                rfl)
              have HV := Lib.hid (rlive_any H3.out.mst.mast hl i hi false)
              clear hat
              go_wp2_with fail
              refine HV.out.mono ?_
              rintro e wb ⟨⟨v, rfl⟩, vv3, g1⟩
              have H4 := Lib.hid (H3.out.turn g1)
              clear g1 HV H3 x0 x1 x2
              have e0 := H4.out.event.free 0; have e1 := H4.out.event.free 1
              have c0 := H4.out.event.cell 0 (by simp)
              have c1 := H4.out.event.cell 1 (by simp)
              simp only [List.getElem_cons_zero, List.getElem_cons_succ] at c0 c1
              go_wp2_with fail
              have H5 := Lib.hid (H4.out.ev2 (.int .i64 0) (.bool false))
              (try simp only [Exit.inBlock, Exit.then])
              refine bodyPost_ret (event_out rfl _ _ (sb + 1) _ _ rfl H5.out.event) rfl ?_
              rw [HL.out, HQ.out]
              exact ⟨rfl, _, H5.out.mst⟩
            | some T =>
              obtain ⟨⟨b2, e2⟩, hr⟩ : ∃ r, M.b.fail (i : Int) = r := ⟨_, rfl⟩
              have HQ := Lib.hid (show M.does 4 i t s = (⟨b2, M.lives.set i false⟩, ⟨(T : Int), false, 0⟩) from by
                show M.die i = _
                unfold Sch.Master.die Sch.Master.at_
                rw [hr, hat]
                rfl)
              have HR := Lib.hid hr
              clear hat hr
              go_wp2_with fail
              have H4 := Lib.hid H3.out.drew
              have hA := H4.out.mst.mast.fail_ HF.out hk (i : Int)
              rw [HR.out] at hA
              have HA := Lib.hid hA
              clear hA H3 x0 x1 x2
              go_region_held3 (fun V => V.cell? ⟨R, 0, none⟩ = some (.pointer (some ⟨r, 0, none⟩)) ∧ V.cell? ⟨sb, 1, none⟩ = some (.int .i64 (i : Int)))
                (first | exact KP.out _ _ _ _ H4.out | exact KP.out _ _ _ _ HTA.out)
                (first | (go_at_call 50; refine HA.out.mono ?_; rintro e wb ⟨rfl, g1⟩; have HTA := Lib.hid (H4.out.turn g1); clear g1))
              clear HA H4
              have HV := Lib.hid (rlive_any HTA.out.mst.mast hl i hi false)
              have x1 : wb.cell? ⟨sb, 1, none⟩ = some (.int .i64 (i : Int)) := HTA.out.pick.cell 1 (by simp [pickV])
              go_wp2_with fail
              refine HV.out.mono ?_
              rintro e wc ⟨⟨v, rfl⟩, vv3, g1⟩
              have H4 := Lib.hid (HTA.out.turn g1)
              clear g1 HV HTA x1
              have e0 := H4.out.event.free 0; have e1 := H4.out.event.free 1
              have c0 := H4.out.event.cell 0 (by simp)
              have c1 := H4.out.event.cell 1 (by simp)
              simp only [List.getElem_cons_zero, List.getElem_cons_succ] at c0 c1
              go_wp2_with fail
              have H5 := Lib.hid (H4.out.ev2 (.int .i64 (T : Int)) (.bool false))
              (try simp only [Exit.inBlock, Exit.then])
              refine bodyPost_ret (event_out rfl _ _ (sb + 1) _ _ rfl H5.out.event) rfl ?_
              rw [HL.out, HQ.out]
              exact ⟨rfl, _, H5.out.mst⟩
        · as_aux_lemma =>
            obtain rfl : d = 5 := hdd
            have hlv2 : M.lives.getD i false = true := hlv
            have HLV := Lib.hid hlv2
            rw [hlv2] at hc
            clear hlv hlv2
            have x0 : wj.drew.cell? ⟨sb, 0, none⟩ = some (.int .u8 5) := x0
            go_region
            clear x0 x1 k1 hc hix
            generalize wj.drew = wk at *
            go_upto_region 5 with fail
            have H3 := Lib.hid H2.out.drew
            have HA := Lib.hid (H3.out.mst.mast.at_ HF.out hk (i : Int))
            go_region_held3 (fun V => V.cell? ⟨R, 0, none⟩ = some (.pointer (some ⟨r, 0, none⟩)) ∧ V.cell? ⟨sb, 1, none⟩ = some (.int .i64 (i : Int)))
              (exact KP.out _ _ _ _ H3.out)
              (first | (go_at_call 48; refine HA.out.mono ?_; rintro e wb ⟨rfl, rfl⟩))
            clear HA H2
            generalize wk.drew = wl at *
            have x0 : wl.cell? ⟨sb, 0, none⟩ = some (.int .u8 5) := H3.out.pick.cell 0 (by simp [pickV])
            have x1 : wl.cell? ⟨sb, 1, none⟩ = some (.int .i64 (i : Int)) := H3.out.pick.cell 1 (by simp [pickV])
            have x2 : wl.cell? ⟨sb, 2, none⟩ = some (.int .i64 t) := H3.out.pick.cell 2 (by simp [pickV])
            generalize M.b.at_ (i : Int) = ao at *
            go_wp2_with fail
            have H4 := Lib.hid H3.out.drew
            clear x0 x1 x2
            obtain ⟨g2, cap2, ev, hix, hc⟩ := H4.out.mst.mast.slice (i := i) hi
            rw [HLV.out] at hc
            clear ev
            have x1 : wl.drew.cell? ⟨sb, 1, none⟩ = some (.int .i64 (i : Int)) := H4.out.pick.cell 1 (by simp [pickV])
            have k1 : wl.drew.cell? ⟨R, 1, none⟩ = some vv := H4.out.mst.mast.cells.2.1
            go_region
            clear hix hc k1 x1 H3
            generalize wl.drew = w4 at *
            have x1 : w4.cell? ⟨sb, 1, none⟩ = some (.int .i64 (i : Int)) := H4.out.pick.cell 1 (by simp [pickV])
            have HQ := Lib.hid (show M.does 5 i t s = (M, Sch.none_ 2) from by
              show M.wake i = _
              unfold Sch.Master.wake
              rw [HLV.out]
              rfl)
            have e0 := H4.out.event.free 0; have e1 := H4.out.event.free 1
            have c0 := H4.out.event.cell 0 (by simp)
            have c1 := H4.out.event.cell 1 (by simp)
            simp only [List.getElem_cons_zero, List.getElem_cons_succ] at c0 c1
            go_wp2_with fail
            have H5 := Lib.hid (H4.out.ev2 (.int .i64 0) (.bool false))
            (try simp only [Exit.inBlock, Exit.then])
            refine bodyPost_ret (event_out rfl _ _ (sb + 1) _ _ rfl H5.out.event) rfl ?_
            rw [HL.out, HQ.out]
            exact ⟨rfl, _, H5.out.mst⟩
      | false =>
        have hdd : d = 5 := by
          rcases hlb with e | e
          · exact e
          · rw [hlv] at e; cases e
        clear hlb hd6 hbad hd
        obtain rfl : d = 5 := hdd
        have hlv2 : M.lives.getD i false = false := hlv
        have HLV := Lib.hid hlv2
        rw [hlv2] at hc
        clear hlv hlv2
        have x0 : wj.drew.cell? ⟨sb, 0, none⟩ = some (.int .u8 5) := x0
        go_region
        clear x0 x1 k1 hc hix
        generalize wj.drew = wk at *
        go_upto_region 5 with fail
        have H3 := Lib.hid H2.out.drew
        have HA := Lib.hid (H3.out.mst.mast.at_ HF.out hk (i : Int))
        go_region_held3 (fun V => V.cell? ⟨R, 0, none⟩ = some (.pointer (some ⟨r, 0, none⟩)) ∧ V.cell? ⟨sb, 1, none⟩ = some (.int .i64 (i : Int)))
          (exact KP.out _ _ _ _ H3.out)
          (first | (go_at_call 48; refine HA.out.mono ?_; rintro e wb ⟨rfl, rfl⟩))
        clear HA H2
        generalize wk.drew = wl at *
        have x0 : wl.cell? ⟨sb, 0, none⟩ = some (.int .u8 5) := H3.out.pick.cell 0 (by simp [pickV])
        have x1 : wl.cell? ⟨sb, 1, none⟩ = some (.int .i64 (i : Int)) := H3.out.pick.cell 1 (by simp [pickV])
        have x2 : wl.cell? ⟨sb, 2, none⟩ = some (.int .i64 t) := H3.out.pick.cell 2 (by simp [pickV])
        generalize M.b.at_ (i : Int) = ao at *
        go_wp2_with fail
        have H4 := Lib.hid H3.out.drew
        clear x0 x1 x2
        obtain ⟨g2, cap2, ev, hix, hc⟩ := H4.out.mst.mast.slice (i := i) hi
        rw [HLV.out] at hc
        clear ev
        have x1 : wl.drew.cell? ⟨sb, 1, none⟩ = some (.int .i64 (i : Int)) := H4.out.pick.cell 1 (by simp [pickV])
        have k1 : wl.drew.cell? ⟨R, 1, none⟩ = some vv := H4.out.mst.mast.cells.2.1
        go_region
        clear hix hc k1 x1 H3
        generalize wl.drew = w4 at *
        have x1 : w4.cell? ⟨sb, 1, none⟩ = some (.int .i64 (i : Int)) := H4.out.pick.cell 1 (by simp [pickV])
        have HQ := Lib.hid (show M.does 5 i t s = (⟨M.b, M.lives.set i true⟩, Sch.none_ 0) from by
          show M.wake i = _
          unfold Sch.Master.wake
          rw [HLV.out]
          rfl)
        have HV := Lib.hid (rlive_any H4.out.mst.mast hl i hi true)
        go_wp2_with fail
        refine HV.out.mono ?_
        rintro e wc ⟨⟨v, rfl⟩, vv3, g1⟩
        have H6 := Lib.hid (H4.out.turn g1)
        clear g1 HV H4 x1
        have e0 := H6.out.event.free 0; have e1 := H6.out.event.free 1
        have c0 := H6.out.event.cell 0 (by simp)
        have c1 := H6.out.event.cell 1 (by simp)
        simp only [List.getElem_cons_zero, List.getElem_cons_succ] at c0 c1
        go_wp2_with fail
        have H5 := Lib.hid (H6.out.ev2 (.int .i64 0) (.bool false))
        (try simp only [Exit.inBlock, Exit.then])
        refine bodyPost_ret (event_out rfl _ _ (sb + 1) _ _ rfl H5.out.event) rfl ?_
        rw [HL.out, HQ.out]
        exact ⟨rfl, _, H5.out.mst⟩
end
end Go.Proofs.YtgmhglcdifhimaaDoor
