/- maslin/sched: Do, walked. -/
import Derived.Test.YtgmhglcdifhimaaDoorSchedBegin
namespace Go.Proofs.YtgmhglcdifhimaaDoor
open Go.RowKit Go.Maps Go.Sort
open Tsk

section
variable {w w' w1 w2 : World} {P p m k sb : Nat} {lv vv : Value} {nvs : List Value} {M M' : Sch.Master}
set_option maxRecDepth 100000 in
theorem do_nil (d : Int) (x t : Int) (s : List UInt8) (w : World) : Calls Tryd.prog 17 #[.pointer none, .agg #[.int .u8 d, .int .i64 x, .int .i64 t], .string (bs s)] w fun e w' => e = .returned (ansV (Sch.none_ 1)) ∧ Below w.heap.size w w' := by
  have hb1 : Below w.heap.size w (w.alloc (.cells #[.int .u8 d, .int .i64 x, .int .i64 t] 46)) := (Below.refl _ _).alloc (Nat.le_refl _) _
  have hb2 : Below w.heap.size w ((w.alloc (.cells #[.int .u8 d, .int .i64 x, .int .i64 t] 46)).alloc (.cells #[.int .i64 0, .bool false] 42)) := hb1.alloc (by rw [World.size_alloc]; omega) _
  have HB := Lib.hid hb2
  have hex : RowAt ((w.alloc (.cells #[.int .u8 d, .int .i64 x, .int .i64 t] 46)).alloc (.cells #[.int .i64 0, .bool false] 42)) (w.heap.size + 1) 42 [.int .i64 0, .bool false] := by
    have := RowAt.made (w.alloc (.cells #[.int .u8 d, .int .i64 x, .int .i64 t] 46)) #[.int .i64 0, .bool false] 42
    rw [World.size_alloc] at this
    exact this
  have HE := Lib.hid hex
  have e0 := hex.free 0; have e1 := hex.free 1
  have c0 := hex.cell 0 (by simp)
  have c1 := hex.cell 1 (by simp)
  simp only [List.getElem_cons_zero, List.getElem_cons_succ] at c0 c1
  clear hb1 hb2 hex
  go_enter Tryd.func17, Tryd.ntmps17
  go_wp2_with fail
  (try simp only [Exit.inBlock, Exit.then])
  refine bodyPost_ret (event_out rfl _ _ (w.heap.size + 1) _ _ rfl HE.out) rfl ?_
  exact ⟨rfl, HB.out⟩
set_option maxRecDepth 100000 in
set_option maxHeartbeats 8000000 in
theorem do_any (h : MastIn w P p m lv nvs vv M) (hF : M.b.Fine k) (hk : k ≤ 1000000) (hl : M.lives.length ≤ 16) (d : Nat) (hd : d < 256) (x t : Int) (s : List UInt8) :
    Calls Tryd.prog 17 #[.pointer (some ⟨P, 0, none⟩), .agg #[.int .u8 (d : Int), .int .i64 x, .int .i64 t], .string (bs s)] w fun e w' => e = .returned (ansV (M.do_ ⟨d, x, t⟩ s).2) ∧ MastTo w w' P p m lv nvs vv (M.do_ ⟨d, x, t⟩ s).1 := by
  obtain ⟨hbx, hmx, hpx, hex⟩ := boxes h (d : Int) x t
  have HT0 := Lib.hid (MastTo.below h hbx)
  have hdr : ∀ wi : World, Below wi.heap.size wi wi.drew := fun wi => (Below.refl _ _).drew
  have HF := Lib.hid hF
  clear h hF hbx
  go_enter Tryd.func17, Tryd.ntmps17
  go_wp2_with fail
  generalize hsb : w.heap.size = sb at *
  generalize (w.alloc (.cells #[.int .u8 (d : Int), .int .i64 x, .int .i64 t] 46)).alloc (.cells #[.int .i64 0, .bool false] 42) = wi at *
  have HT1 := Lib.hid (HT0.out.then (MastTo.below hmx (hdr _)))
  have HX1 := Lib.hid (hpx.below (hdr _))
  have HE1 := Lib.hid (hex.below (hdr _))
  clear HT0 hmx hpx hex
  have x0 : wi.drew.cell? ⟨sb, 0, none⟩ = some (.int .u8 (d : Int)) := HX1.out.cell 0 (by simp [pickV])
  have x1 : wi.drew.cell? ⟨sb, 1, none⟩ = some (.int .i64 x) := HX1.out.cell 1 (by simp [pickV])
  have k1 : wi.drew.cell? ⟨P, 1, none⟩ = some vv := HT1.out.mast.cells.2.1
  obtain ⟨qv, cv, evv⟩ : ∃ q cap, vv = .slice q M.lives.length cap := by
    obtain ⟨q, c, e⟩ := slice_len HT1.out.mast.row
    exact ⟨q, c, e⟩
  by_cases hbad : 6 ≤ d ∨ x < 0 ∨ (M.lives.length : Int) ≤ x
  · have HL := Lib.hid (show M.do_ ⟨d, x, t⟩ s = (M, Sch.none_ 2) from by unfold Sch.Master.do_; rw [if_pos hbad])
    rw [evv] at k1
    clear evv
    by_cases h6 : 6 ≤ d
    · have h6' : decide ((6 : Int) ≤ (d : Int)) = true := by simp; omega
      go_region
      clear HX1 x0 x1 k1
      generalize wi.drew = w4 at *
      have e0 := HE1.out.free 0; have e1 := HE1.out.free 1
      have c0 : w4.cell? ⟨sb + 1, 0, none⟩ = some (.int .i64 0) := HE1.out.cell 0 (by simp)
      have c1 : w4.cell? ⟨sb + 1, 1, none⟩ = some (.bool false) := HE1.out.cell 1 (by simp)
      go_wp2_with fail
      have HE5 := Lib.hid ((HE1.out.set 0 (.int .i64 0)).set 1 (.bool false))
      (try simp only [Exit.inBlock, Exit.then])
      refine bodyPost_ret (event_out rfl _ _ (sb + 1) _ _ rfl HE5.out) rfl ?_
      rw [HL.out]
      exact ⟨rfl, HT1.out.event HE1.out (by omega) (Nat.succ_pos _) _ _⟩
    · have h6' : decide ((6 : Int) ≤ (d : Int)) = false := by simp; omega
      by_cases h7 : x < 0
      · have h7' : decide (x < 0) = true := by simpa using h7
        go_region
        clear HX1 x0 x1 k1
        generalize wi.drew = w4 at *
        have e0 := HE1.out.free 0; have e1 := HE1.out.free 1
        have c0 : w4.cell? ⟨sb + 1, 0, none⟩ = some (.int .i64 0) := HE1.out.cell 0 (by simp)
        have c1 : w4.cell? ⟨sb + 1, 1, none⟩ = some (.bool false) := HE1.out.cell 1 (by simp)
        go_wp2_with fail
        have HE5 := Lib.hid ((HE1.out.set 0 (.int .i64 0)).set 1 (.bool false))
        (try simp only [Exit.inBlock, Exit.then])
        refine bodyPost_ret (event_out rfl _ _ (sb + 1) _ _ rfl HE5.out) rfl ?_
        rw [HL.out]
        exact ⟨rfl, HT1.out.event HE1.out (by omega) (Nat.succ_pos _) _ _⟩
      · have h7' : decide (x < 0) = false := by simpa using h7
        have h8' : decide ((M.lives.length : Int) ≤ x) = true := by simp; omega
        go_region
        clear HX1 x0 x1 k1
        generalize wi.drew = w4 at *
        have e0 := HE1.out.free 0; have e1 := HE1.out.free 1
        have c0 : w4.cell? ⟨sb + 1, 0, none⟩ = some (.int .i64 0) := HE1.out.cell 0 (by simp)
        have c1 : w4.cell? ⟨sb + 1, 1, none⟩ = some (.bool false) := HE1.out.cell 1 (by simp)
        go_wp2_with fail
        have HE5 := Lib.hid ((HE1.out.set 0 (.int .i64 0)).set 1 (.bool false))
        (try simp only [Exit.inBlock, Exit.then])
        refine bodyPost_ret (event_out rfl _ _ (sb + 1) _ _ rfl HE5.out) rfl ?_
        rw [HL.out]
        exact ⟨rfl, HT1.out.event HE1.out (by omega) (Nat.succ_pos _) _ _⟩
  · obtain ⟨i, rfl⟩ : ∃ i : Nat, x = (i : Int) := ⟨x.toNat, by omega⟩
    have hi : i < M.lives.length := by omega
    have h6' : decide ((6 : Int) ≤ (d : Int)) = false := by simp; omega
    have h7' : decide ((i : Int) < 0) = false := by simp
    have h8' : decide (M.lives.length ≤ i) = false := by simp; omega
    rw [evv] at k1
    clear evv
    go_region
    clear x0 x1 k1 h6' h7' h8'
    generalize wi.drew = wj at *
    go_wp2_with fail
    have HT2 := Lib.hid (HT1.out.then (MastTo.below HT1.out.mast (hdr _)))
    have HX2 := Lib.hid (HX1.out.below (hdr _))
    have HE2 := Lib.hid (HE1.out.below (hdr _))
    obtain ⟨g, cap, ev, hix, hc, _, _⟩ := HT2.out.mast.slice (i := i) hi
    clear ev
    have x0 : wj.drew.cell? ⟨sb, 0, none⟩ = some (.int .u8 (d : Int)) := HX2.out.cell 0 (by simp [pickV])
    have x1 : wj.drew.cell? ⟨sb, 1, none⟩ = some (.int .i64 (i : Int)) := HX2.out.cell 1 (by simp [pickV])
    have k1 : wj.drew.cell? ⟨P, 1, none⟩ = some vv := HT2.out.mast.cells.2.1
    clear HT1 HX1 HE1
    by_cases hdead : M.lives.getD i false = false ∧ d ≠ 5
    · have HL := Lib.hid (show M.do_ ⟨d, (i : Int), t⟩ s = (M, Sch.none_ 310) from by unfold Sch.Master.do_; rw [if_neg hbad, if_pos (by simpa using hdead)])
      rw [hdead.1] at hc
      have h5 : ((d : Int) != 5) = true := by simp; omega
      go_region
      clear x0 x1 k1 hc hix
      generalize wj.drew = w4 at *
      have e0 := HE2.out.free 0; have e1 := HE2.out.free 1
      have c0 : w4.cell? ⟨sb + 1, 0, none⟩ = some (.int .i64 0) := HE2.out.cell 0 (by simp)
      have c1 : w4.cell? ⟨sb + 1, 1, none⟩ = some (.bool false) := HE2.out.cell 1 (by simp)
      go_wp2_with fail
      have HE5 := Lib.hid ((HE2.out.set 0 (.int .i64 0)).set 1 (.bool false))
      (try simp only [Exit.inBlock, Exit.then])
      refine bodyPost_ret (event_out rfl _ _ (sb + 1) _ _ rfl HE5.out) rfl ?_
      rw [HL.out]
      exact ⟨rfl, HT2.out.event HE2.out (by omega) (Nat.succ_pos _) _ _⟩
    · have HL := Lib.hid (show M.do_ ⟨d, (i : Int), t⟩ s = M.does d i t s from by unfold Sch.Master.do_; rw [if_neg hbad, if_neg (by simpa using hdead)]; rfl)
      have hgo : (M.lives.getD i false = true) ∨ (M.lives.getD i false = false ∧ d = 5) := by
        cases hc : M.lives.getD i false
        · exact .inr ⟨rfl, Classical.byContradiction fun h => hdead ⟨hc, h⟩⟩
        · exact .inl rfl
      generalize hdz : (d : Int) = dz at *
      rcases hgo with ha | ⟨ha, rfl⟩
      · rw [ha] at hc
        clear ha hdead
        go_region
        clear x0 x1 k1 hc hix
        have HT3 := Lib.hid HT2.out; have HX3 := Lib.hid HX2.out; have HE3 := Lib.hid HE2.out
        clear HT2 HX2 HE2
        generalize wj.drew = wk at *
        go_wp2_with fail
        have hd6 : d = 0 ∨ d = 1 ∨ d = 2 ∨ d = 3 ∨ d = 4 ∨ d = 5 := by omega
        rcases hd6 with rfl | rfl | rfl | rfl | rfl | rfl
        · obtain rfl : dz = 0 := by omega
          have HQ := Lib.hid (show M.does 0 i t s = M.begin (i : Int) t 1 from rfl)
          have HT4 := Lib.hid (HT3.out.then (MastTo.below HT3.out.mast (hdr _)))
          have HX4 := Lib.hid (HX3.out.below (hdr _))
          have HE4 := Lib.hid (HE3.out.below (hdr _))
          have HA := Lib.hid (mstart_any HT4.out.mast HF.out hk 0 i t hi hl s)
          have KP := Lib.hid (fun (V : World) (hm : Doors V) (hb : RowAt V sb 46 (pickV 0 i t)) => (⟨hm.1, hb.cell 0 (by simp [pickV]), hb.cell 1 (by simp [pickV]), hb.cell 2 (by simp [pickV])⟩ : V.cell? ⟨0, 0, none⟩ = some (.func (.func 117) #[] #[]) ∧ V.cell? ⟨sb, 0, none⟩ = some (.int .u8 0) ∧ V.cell? ⟨sb, 1, none⟩ = some (.int .i64 (i : Int)) ∧ V.cell? ⟨sb, 2, none⟩ = some (.int .i64 t)))
          clear HT3 HX3 HE3
          obtain ⟨⟨M2, a1, a2, a3⟩, hr⟩ : ∃ r, M.begin (i : Int) t 1 = r := ⟨_, rfl⟩
          rw [hr] at HA
          have HR := Lib.hid hr
          clear hr
          unfold ansV at HA
          go_region_held3 (fun V => V.cell? ⟨0, 0, none⟩ = some (.func (.func 117) #[] #[]) ∧ V.cell? ⟨sb, 0, none⟩ = some (.int .u8 0) ∧ V.cell? ⟨sb, 1, none⟩ = some (.int .i64 (i : Int)) ∧ V.cell? ⟨sb, 2, none⟩ = some (.int .i64 t))
            (first | exact KP.out _ HT4.out.mast.doors HX4.out | exact KP.out _ HMA.out.mast.doors HXA.out | exact KP.out _ HTS.out.mast.doors HXS.out)
            (first | (go_at_call 117; refine HA.out.mono ?_; rintro e wb ⟨rfl, g1⟩; have HMA := Lib.hid g1; have HTA := Lib.hid (HT4.out.then HMA.out); have HXA := Lib.hid (HX4.out.upd HMA.out.upd (HT4.out.mast.notOf HX4.out.blk (by decide) (by decide) (by decide) (by decide))); have HEA := Lib.hid (HE4.out.upd HMA.out.upd (HT4.out.mast.notOf HE4.out.blk (by decide) (by decide) (by decide) (by decide))); have ce0 : wb.cell? ⟨sb + 1, 0, none⟩ = some (.int .i64 0) := HEA.out.cell 0 (by simp); have ce1 : wb.cell? ⟨sb + 1, 1, none⟩ = some (.bool false) := HEA.out.cell 1 (by simp); have cf0 := HEA.out.free 0; have cf1 := HEA.out.free 1; have HTS := Lib.hid (HTA.out.event HEA.out (by omega) (Nat.succ_pos _) (.int .i64 a1) (.bool a2)); have HES := Lib.hid (show RowAt ((wb.setCell ⟨sb + 1, 0, none⟩ (.int .i64 a1)).setCell ⟨sb + 1, 1, none⟩ (.bool a2)) (sb + 1) 42 [.int .i64 a1, .bool a2] from (HEA.out.set 0 (.int .i64 a1)).set 1 (.bool a2)); have HXS := Lib.hid ((HXA.out.far (Nat.succ_ne_self _) 0 (.int .i64 a1)).far (Nat.succ_ne_self _) 1 (.bool a2)); clear g1))
          go_wp2_with fail
          (try simp only [Exit.inBlock, Exit.then])
          refine bodyPost_ret (event_out rfl _ _ (sb + 1) _ _ rfl HES.out) rfl ?_
          rw [HL.out, HQ.out, HR.out]
          exact ⟨rfl, HTS.out⟩
        · obtain rfl : dz = 1 := by omega
          have HQ := Lib.hid (show M.does 1 i t s = M.begin (i : Int) t 2 from rfl)
          have HT4 := Lib.hid (HT3.out.then (MastTo.below HT3.out.mast (hdr _)))
          have HX4 := Lib.hid (HX3.out.below (hdr _))
          have HE4 := Lib.hid (HE3.out.below (hdr _))
          have HA := Lib.hid (mcopy_any HT4.out.mast HF.out hk 1 i t hi hl s)
          have KP := Lib.hid (fun (V : World) (hm : Doors V) (hb : RowAt V sb 46 (pickV 1 i t)) => (⟨hm.2.1, hb.cell 0 (by simp [pickV]), hb.cell 1 (by simp [pickV]), hb.cell 2 (by simp [pickV])⟩ : V.cell? ⟨0, 1, none⟩ = some (.func (.func 118) #[] #[]) ∧ V.cell? ⟨sb, 0, none⟩ = some (.int .u8 1) ∧ V.cell? ⟨sb, 1, none⟩ = some (.int .i64 (i : Int)) ∧ V.cell? ⟨sb, 2, none⟩ = some (.int .i64 t)))
          clear HT3 HX3 HE3
          obtain ⟨⟨M2, a1, a2, a3⟩, hr⟩ : ∃ r, M.begin (i : Int) t 2 = r := ⟨_, rfl⟩
          rw [hr] at HA
          have HR := Lib.hid hr
          clear hr
          unfold ansV at HA
          go_region_held3 (fun V => V.cell? ⟨0, 1, none⟩ = some (.func (.func 118) #[] #[]) ∧ V.cell? ⟨sb, 0, none⟩ = some (.int .u8 1) ∧ V.cell? ⟨sb, 1, none⟩ = some (.int .i64 (i : Int)) ∧ V.cell? ⟨sb, 2, none⟩ = some (.int .i64 t))
            (first | exact KP.out _ HT4.out.mast.doors HX4.out | exact KP.out _ HMA.out.mast.doors HXA.out | exact KP.out _ HTS.out.mast.doors HXS.out)
            (first | (go_at_call 118; refine HA.out.mono ?_; rintro e wb ⟨rfl, g1⟩; have HMA := Lib.hid g1; have HTA := Lib.hid (HT4.out.then HMA.out); have HXA := Lib.hid (HX4.out.upd HMA.out.upd (HT4.out.mast.notOf HX4.out.blk (by decide) (by decide) (by decide) (by decide))); have HEA := Lib.hid (HE4.out.upd HMA.out.upd (HT4.out.mast.notOf HE4.out.blk (by decide) (by decide) (by decide) (by decide))); have ce0 : wb.cell? ⟨sb + 1, 0, none⟩ = some (.int .i64 0) := HEA.out.cell 0 (by simp); have ce1 : wb.cell? ⟨sb + 1, 1, none⟩ = some (.bool false) := HEA.out.cell 1 (by simp); have cf0 := HEA.out.free 0; have cf1 := HEA.out.free 1; have HTS := Lib.hid (HTA.out.event HEA.out (by omega) (Nat.succ_pos _) (.int .i64 a1) (.bool a2)); have HES := Lib.hid (show RowAt ((wb.setCell ⟨sb + 1, 0, none⟩ (.int .i64 a1)).setCell ⟨sb + 1, 1, none⟩ (.bool a2)) (sb + 1) 42 [.int .i64 a1, .bool a2] from (HEA.out.set 0 (.int .i64 a1)).set 1 (.bool a2)); have HXS := Lib.hid ((HXA.out.far (Nat.succ_ne_self _) 0 (.int .i64 a1)).far (Nat.succ_ne_self _) 1 (.bool a2)); clear g1))
          go_wp2_with fail
          (try simp only [Exit.inBlock, Exit.then])
          refine bodyPost_ret (event_out rfl _ _ (sb + 1) _ _ rfl HES.out) rfl ?_
          rw [HL.out, HQ.out, HR.out]
          exact ⟨rfl, HTS.out⟩
        · obtain rfl : dz = 2 := by omega
          have HQ := Lib.hid (show M.does 2 i t s = M.finish (i : Int) s from rfl)
          have HT4 := Lib.hid (HT3.out.then (MastTo.below HT3.out.mast (hdr _)))
          have HX4 := Lib.hid (HX3.out.below (hdr _))
          have HE4 := Lib.hid (HE3.out.below (hdr _))
          have HA := Lib.hid (mfinish_any HT4.out.mast HF.out 2 i t hi hl s)
          have KP := Lib.hid (fun (V : World) (hm : Doors V) (hb : RowAt V sb 46 (pickV 2 i t)) => (⟨hm.2.2.1, hb.cell 0 (by simp [pickV]), hb.cell 1 (by simp [pickV]), hb.cell 2 (by simp [pickV])⟩ : V.cell? ⟨0, 2, none⟩ = some (.func (.func 119) #[] #[]) ∧ V.cell? ⟨sb, 0, none⟩ = some (.int .u8 2) ∧ V.cell? ⟨sb, 1, none⟩ = some (.int .i64 (i : Int)) ∧ V.cell? ⟨sb, 2, none⟩ = some (.int .i64 t)))
          clear HT3 HX3 HE3
          obtain ⟨⟨M2, a1, a2, a3⟩, hr⟩ : ∃ r, M.finish (i : Int) s = r := ⟨_, rfl⟩
          rw [hr] at HA
          have HR := Lib.hid hr
          clear hr
          unfold ansV at HA
          go_region_held3 (fun V => V.cell? ⟨0, 2, none⟩ = some (.func (.func 119) #[] #[]) ∧ V.cell? ⟨sb, 0, none⟩ = some (.int .u8 2) ∧ V.cell? ⟨sb, 1, none⟩ = some (.int .i64 (i : Int)) ∧ V.cell? ⟨sb, 2, none⟩ = some (.int .i64 t))
            (first | exact KP.out _ HT4.out.mast.doors HX4.out | exact KP.out _ HMA.out.mast.doors HXA.out | exact KP.out _ HTS.out.mast.doors HXS.out)
            (first | (go_at_call 119; refine HA.out.mono ?_; rintro e wb ⟨rfl, g1⟩; have HMA := Lib.hid g1; have HTA := Lib.hid (HT4.out.then HMA.out); have HXA := Lib.hid (HX4.out.upd HMA.out.upd (HT4.out.mast.notOf HX4.out.blk (by decide) (by decide) (by decide) (by decide))); have HEA := Lib.hid (HE4.out.upd HMA.out.upd (HT4.out.mast.notOf HE4.out.blk (by decide) (by decide) (by decide) (by decide))); have ce0 : wb.cell? ⟨sb + 1, 0, none⟩ = some (.int .i64 0) := HEA.out.cell 0 (by simp); have ce1 : wb.cell? ⟨sb + 1, 1, none⟩ = some (.bool false) := HEA.out.cell 1 (by simp); have cf0 := HEA.out.free 0; have cf1 := HEA.out.free 1; have HTS := Lib.hid (HTA.out.event HEA.out (by omega) (Nat.succ_pos _) (.int .i64 a1) (.bool a2)); have HES := Lib.hid (show RowAt ((wb.setCell ⟨sb + 1, 0, none⟩ (.int .i64 a1)).setCell ⟨sb + 1, 1, none⟩ (.bool a2)) (sb + 1) 42 [.int .i64 a1, .bool a2] from (HEA.out.set 0 (.int .i64 a1)).set 1 (.bool a2)); have HXS := Lib.hid ((HXA.out.far (Nat.succ_ne_self _) 0 (.int .i64 a1)).far (Nat.succ_ne_self _) 1 (.bool a2)); clear g1))
          go_wp2_with fail
          (try simp only [Exit.inBlock, Exit.then])
          refine bodyPost_ret (event_out rfl _ _ (sb + 1) _ _ rfl HES.out) rfl ?_
          rw [HL.out, HQ.out, HR.out]
          exact ⟨rfl, HTS.out⟩
        · obtain rfl : dz = 3 := by omega
          have HQ := Lib.hid (show M.does 3 i t s = M.fail (i : Int) from rfl)
          have HT4 := Lib.hid (HT3.out.then (MastTo.below HT3.out.mast (hdr _)))
          have HX4 := Lib.hid (HX3.out.below (hdr _))
          have HE4 := Lib.hid (HE3.out.below (hdr _))
          have HA := Lib.hid (mfail_any HT4.out.mast HF.out hk 3 i t hi hl s)
          have KP := Lib.hid (fun (V : World) (hm : Doors V) (hb : RowAt V sb 46 (pickV 3 i t)) => (⟨hm.2.2.2.1, hb.cell 0 (by simp [pickV]), hb.cell 1 (by simp [pickV]), hb.cell 2 (by simp [pickV])⟩ : V.cell? ⟨0, 3, none⟩ = some (.func (.func 120) #[] #[]) ∧ V.cell? ⟨sb, 0, none⟩ = some (.int .u8 3) ∧ V.cell? ⟨sb, 1, none⟩ = some (.int .i64 (i : Int)) ∧ V.cell? ⟨sb, 2, none⟩ = some (.int .i64 t)))
          clear HT3 HX3 HE3
          obtain ⟨⟨M2, a1, a2, a3⟩, hr⟩ : ∃ r, M.fail (i : Int) = r := ⟨_, rfl⟩
          rw [hr] at HA
          have HR := Lib.hid hr
          clear hr
          unfold ansV at HA
          go_region_held3 (fun V => V.cell? ⟨0, 3, none⟩ = some (.func (.func 120) #[] #[]) ∧ V.cell? ⟨sb, 0, none⟩ = some (.int .u8 3) ∧ V.cell? ⟨sb, 1, none⟩ = some (.int .i64 (i : Int)) ∧ V.cell? ⟨sb, 2, none⟩ = some (.int .i64 t))
            (first | exact KP.out _ HT4.out.mast.doors HX4.out | exact KP.out _ HMA.out.mast.doors HXA.out | exact KP.out _ HTS.out.mast.doors HXS.out)
            (first | (go_at_call 120; refine HA.out.mono ?_; rintro e wb ⟨rfl, g1⟩; have HMA := Lib.hid g1; have HTA := Lib.hid (HT4.out.then HMA.out); have HXA := Lib.hid (HX4.out.upd HMA.out.upd (HT4.out.mast.notOf HX4.out.blk (by decide) (by decide) (by decide) (by decide))); have HEA := Lib.hid (HE4.out.upd HMA.out.upd (HT4.out.mast.notOf HE4.out.blk (by decide) (by decide) (by decide) (by decide))); have ce0 : wb.cell? ⟨sb + 1, 0, none⟩ = some (.int .i64 0) := HEA.out.cell 0 (by simp); have ce1 : wb.cell? ⟨sb + 1, 1, none⟩ = some (.bool false) := HEA.out.cell 1 (by simp); have cf0 := HEA.out.free 0; have cf1 := HEA.out.free 1; have HTS := Lib.hid (HTA.out.event HEA.out (by omega) (Nat.succ_pos _) (.int .i64 a1) (.bool a2)); have HES := Lib.hid (show RowAt ((wb.setCell ⟨sb + 1, 0, none⟩ (.int .i64 a1)).setCell ⟨sb + 1, 1, none⟩ (.bool a2)) (sb + 1) 42 [.int .i64 a1, .bool a2] from (HEA.out.set 0 (.int .i64 a1)).set 1 (.bool a2)); have HXS := Lib.hid ((HXA.out.far (Nat.succ_ne_self _) 0 (.int .i64 a1)).far (Nat.succ_ne_self _) 1 (.bool a2)); clear g1))
          go_wp2_with fail
          (try simp only [Exit.inBlock, Exit.then])
          refine bodyPost_ret (event_out rfl _ _ (sb + 1) _ _ rfl HES.out) rfl ?_
          rw [HL.out, HQ.out, HR.out]
          exact ⟨rfl, HTS.out⟩
        · obtain rfl : dz = 4 := by omega
          have HQ := Lib.hid (show M.does 4 i t s = M.die i from rfl)
          have HT4 := Lib.hid (HT3.out.then (MastTo.below HT3.out.mast (hdr _)))
          have HX4 := Lib.hid (HX3.out.below (hdr _))
          have HE4 := Lib.hid (HE3.out.below (hdr _))
          have HA := Lib.hid (mdie_any HT4.out.mast HF.out hk 4 i t hi hl s)
          have KP := Lib.hid (fun (V : World) (hm : Doors V) (hb : RowAt V sb 46 (pickV 4 i t)) => (⟨hm.2.2.2.2.1, hb.cell 0 (by simp [pickV]), hb.cell 1 (by simp [pickV]), hb.cell 2 (by simp [pickV])⟩ : V.cell? ⟨0, 4, none⟩ = some (.func (.func 121) #[] #[]) ∧ V.cell? ⟨sb, 0, none⟩ = some (.int .u8 4) ∧ V.cell? ⟨sb, 1, none⟩ = some (.int .i64 (i : Int)) ∧ V.cell? ⟨sb, 2, none⟩ = some (.int .i64 t)))
          clear HT3 HX3 HE3
          obtain ⟨⟨M2, a1, a2, a3⟩, hr⟩ : ∃ r, M.die i = r := ⟨_, rfl⟩
          rw [hr] at HA
          have HR := Lib.hid hr
          clear hr
          unfold ansV at HA
          go_region_held3 (fun V => V.cell? ⟨0, 4, none⟩ = some (.func (.func 121) #[] #[]) ∧ V.cell? ⟨sb, 0, none⟩ = some (.int .u8 4) ∧ V.cell? ⟨sb, 1, none⟩ = some (.int .i64 (i : Int)) ∧ V.cell? ⟨sb, 2, none⟩ = some (.int .i64 t))
            (first | exact KP.out _ HT4.out.mast.doors HX4.out | exact KP.out _ HMA.out.mast.doors HXA.out | exact KP.out _ HTS.out.mast.doors HXS.out)
            (first | (go_at_call 121; refine HA.out.mono ?_; rintro e wb ⟨rfl, g1⟩; have HMA := Lib.hid g1; have HTA := Lib.hid (HT4.out.then HMA.out); have HXA := Lib.hid (HX4.out.upd HMA.out.upd (HT4.out.mast.notOf HX4.out.blk (by decide) (by decide) (by decide) (by decide))); have HEA := Lib.hid (HE4.out.upd HMA.out.upd (HT4.out.mast.notOf HE4.out.blk (by decide) (by decide) (by decide) (by decide))); have ce0 : wb.cell? ⟨sb + 1, 0, none⟩ = some (.int .i64 0) := HEA.out.cell 0 (by simp); have ce1 : wb.cell? ⟨sb + 1, 1, none⟩ = some (.bool false) := HEA.out.cell 1 (by simp); have cf0 := HEA.out.free 0; have cf1 := HEA.out.free 1; have HTS := Lib.hid (HTA.out.event HEA.out (by omega) (Nat.succ_pos _) (.int .i64 a1) (.bool a2)); have HES := Lib.hid (show RowAt ((wb.setCell ⟨sb + 1, 0, none⟩ (.int .i64 a1)).setCell ⟨sb + 1, 1, none⟩ (.bool a2)) (sb + 1) 42 [.int .i64 a1, .bool a2] from (HEA.out.set 0 (.int .i64 a1)).set 1 (.bool a2)); have HXS := Lib.hid ((HXA.out.far (Nat.succ_ne_self _) 0 (.int .i64 a1)).far (Nat.succ_ne_self _) 1 (.bool a2)); clear g1))
          go_wp2_with fail
          (try simp only [Exit.inBlock, Exit.then])
          refine bodyPost_ret (event_out rfl _ _ (sb + 1) _ _ rfl HES.out) rfl ?_
          rw [HL.out, HQ.out, HR.out]
          exact ⟨rfl, HTS.out⟩
        · obtain rfl : dz = 5 := by omega
          have HQ := Lib.hid (show M.does 5 i t s = M.wake i from rfl)
          have HT4 := Lib.hid (HT3.out.then (MastTo.below HT3.out.mast (hdr _)))
          have HX4 := Lib.hid (HX3.out.below (hdr _))
          have HE4 := Lib.hid (HE3.out.below (hdr _))
          have HA := Lib.hid (mwake_any HT4.out.mast  5 i t hi hl s)
          have KP := Lib.hid (fun (V : World) (hm : Doors V) (hb : RowAt V sb 46 (pickV 5 i t)) => (⟨hm.2.2.2.2.2, hb.cell 0 (by simp [pickV]), hb.cell 1 (by simp [pickV]), hb.cell 2 (by simp [pickV])⟩ : V.cell? ⟨0, 5, none⟩ = some (.func (.func 122) #[] #[]) ∧ V.cell? ⟨sb, 0, none⟩ = some (.int .u8 5) ∧ V.cell? ⟨sb, 1, none⟩ = some (.int .i64 (i : Int)) ∧ V.cell? ⟨sb, 2, none⟩ = some (.int .i64 t)))
          clear HT3 HX3 HE3
          obtain ⟨⟨M2, a1, a2, a3⟩, hr⟩ : ∃ r, M.wake i = r := ⟨_, rfl⟩
          rw [hr] at HA
          have HR := Lib.hid hr
          clear hr
          unfold ansV at HA
          go_region_held3 (fun V => V.cell? ⟨0, 5, none⟩ = some (.func (.func 122) #[] #[]) ∧ V.cell? ⟨sb, 0, none⟩ = some (.int .u8 5) ∧ V.cell? ⟨sb, 1, none⟩ = some (.int .i64 (i : Int)) ∧ V.cell? ⟨sb, 2, none⟩ = some (.int .i64 t))
            (first | exact KP.out _ HT4.out.mast.doors HX4.out | exact KP.out _ HMA.out.mast.doors HXA.out | exact KP.out _ HTS.out.mast.doors HXS.out)
            (first | (go_at_call 122; refine HA.out.mono ?_; rintro e wb ⟨rfl, g1⟩; have HMA := Lib.hid g1; have HTA := Lib.hid (HT4.out.then HMA.out); have HXA := Lib.hid (HX4.out.upd HMA.out.upd (HT4.out.mast.notOf HX4.out.blk (by decide) (by decide) (by decide) (by decide))); have HEA := Lib.hid (HE4.out.upd HMA.out.upd (HT4.out.mast.notOf HE4.out.blk (by decide) (by decide) (by decide) (by decide))); have ce0 : wb.cell? ⟨sb + 1, 0, none⟩ = some (.int .i64 0) := HEA.out.cell 0 (by simp); have ce1 : wb.cell? ⟨sb + 1, 1, none⟩ = some (.bool false) := HEA.out.cell 1 (by simp); have cf0 := HEA.out.free 0; have cf1 := HEA.out.free 1; have HTS := Lib.hid (HTA.out.event HEA.out (by omega) (Nat.succ_pos _) (.int .i64 a1) (.bool a2)); have HES := Lib.hid (show RowAt ((wb.setCell ⟨sb + 1, 0, none⟩ (.int .i64 a1)).setCell ⟨sb + 1, 1, none⟩ (.bool a2)) (sb + 1) 42 [.int .i64 a1, .bool a2] from (HEA.out.set 0 (.int .i64 a1)).set 1 (.bool a2)); have HXS := Lib.hid ((HXA.out.far (Nat.succ_ne_self _) 0 (.int .i64 a1)).far (Nat.succ_ne_self _) 1 (.bool a2)); clear g1))
          go_wp2_with fail
          (try simp only [Exit.inBlock, Exit.then])
          refine bodyPost_ret (event_out rfl _ _ (sb + 1) _ _ rfl HES.out) rfl ?_
          rw [HL.out, HQ.out, HR.out]
          exact ⟨rfl, HTS.out⟩
      · rw [ha] at hc
        obtain rfl : dz = 5 := by omega
        clear ha hdead
        go_region
        clear x0 x1 k1 hc hix
        have HT3 := Lib.hid HT2.out; have HX3 := Lib.hid HX2.out; have HE3 := Lib.hid HE2.out
        clear HT2 HX2 HE2
        generalize wj.drew = wk at *
        go_wp2_with fail
        have HQ := Lib.hid (show M.does 5 i t s = M.wake i from rfl)
        have HT4 := Lib.hid (HT3.out.then (MastTo.below HT3.out.mast (hdr _)))
        have HX4 := Lib.hid (HX3.out.below (hdr _))
        have HE4 := Lib.hid (HE3.out.below (hdr _))
        have HA := Lib.hid (mwake_any HT4.out.mast  5 i t hi hl s)
        have KP := Lib.hid (fun (V : World) (hm : Doors V) (hb : RowAt V sb 46 (pickV 5 i t)) => (⟨hm.2.2.2.2.2, hb.cell 0 (by simp [pickV]), hb.cell 1 (by simp [pickV]), hb.cell 2 (by simp [pickV])⟩ : V.cell? ⟨0, 5, none⟩ = some (.func (.func 122) #[] #[]) ∧ V.cell? ⟨sb, 0, none⟩ = some (.int .u8 5) ∧ V.cell? ⟨sb, 1, none⟩ = some (.int .i64 (i : Int)) ∧ V.cell? ⟨sb, 2, none⟩ = some (.int .i64 t)))
        clear HT3 HX3 HE3
        obtain ⟨⟨M2, a1, a2, a3⟩, hr⟩ : ∃ r, M.wake i = r := ⟨_, rfl⟩
        rw [hr] at HA
        have HR := Lib.hid hr
        clear hr
        unfold ansV at HA
        go_region_held3 (fun V => V.cell? ⟨0, 5, none⟩ = some (.func (.func 122) #[] #[]) ∧ V.cell? ⟨sb, 0, none⟩ = some (.int .u8 5) ∧ V.cell? ⟨sb, 1, none⟩ = some (.int .i64 (i : Int)) ∧ V.cell? ⟨sb, 2, none⟩ = some (.int .i64 t))
          (first | exact KP.out _ HT4.out.mast.doors HX4.out | exact KP.out _ HMA.out.mast.doors HXA.out | exact KP.out _ HTS.out.mast.doors HXS.out)
          (first | (go_at_call 122; refine HA.out.mono ?_; rintro e wb ⟨rfl, g1⟩; have HMA := Lib.hid g1; have HTA := Lib.hid (HT4.out.then HMA.out); have HXA := Lib.hid (HX4.out.upd HMA.out.upd (HT4.out.mast.notOf HX4.out.blk (by decide) (by decide) (by decide) (by decide))); have HEA := Lib.hid (HE4.out.upd HMA.out.upd (HT4.out.mast.notOf HE4.out.blk (by decide) (by decide) (by decide) (by decide))); have ce0 : wb.cell? ⟨sb + 1, 0, none⟩ = some (.int .i64 0) := HEA.out.cell 0 (by simp); have ce1 : wb.cell? ⟨sb + 1, 1, none⟩ = some (.bool false) := HEA.out.cell 1 (by simp); have cf0 := HEA.out.free 0; have cf1 := HEA.out.free 1; have HTS := Lib.hid (HTA.out.event HEA.out (by omega) (Nat.succ_pos _) (.int .i64 a1) (.bool a2)); have HES := Lib.hid (show RowAt ((wb.setCell ⟨sb + 1, 0, none⟩ (.int .i64 a1)).setCell ⟨sb + 1, 1, none⟩ (.bool a2)) (sb + 1) 42 [.int .i64 a1, .bool a2] from (HEA.out.set 0 (.int .i64 a1)).set 1 (.bool a2)); have HXS := Lib.hid ((HXA.out.far (Nat.succ_ne_self _) 0 (.int .i64 a1)).far (Nat.succ_ne_self _) 1 (.bool a2)); clear g1))
        go_wp2_with fail
        (try simp only [Exit.inBlock, Exit.then])
        refine bodyPost_ret (event_out rfl _ _ (sb + 1) _ _ rfl HES.out) rfl ?_
        rw [HL.out, HQ.out, HR.out]
        exact ⟨rfl, HTS.out⟩
end
end Go.Proofs.YtgmhglcdifhimaaDoor
