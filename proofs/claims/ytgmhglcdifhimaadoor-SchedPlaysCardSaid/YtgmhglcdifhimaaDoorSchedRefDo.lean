/- The document's master (maslinref31): begin, Do, walked. -/
import Derived.Test.YtgmhglcdifhimaaDoorSchedRef
namespace Go.Proofs.YtgmhglcdifhimaaDoor
open Go.RowKit Go.Maps Go.Sort
open Tsk

section
variable {w w' w1 w2 : World} {R r k sb : Nat} {vv vv' vv2 : Value} {M M' M2 : Sch.Master} {pk ev : List Value}
theorem RMast.notOf (h : RMast w R r vv M) {g : Nat} {T : TypeId} (hb : BlkOf w g T) (h1 : T ≠ 69) (h2 : T ≠ 106) : ¬ (g = R ∨ g = r) := fun e => by
  rcases e with e | e
  · exact BlkOf.ne (e ▸ hb : BlkOf w R T) h.struct.blk h1 rfl
  · exact BlkOf.ne (e ▸ hb : BlkOf w r T) h.board.blk h2 rfl
theorem RMastTo.wrote {g : Nat} {cs : List Value} (h : RMastTo w w1 R r vv vv' M') (he : RowAt w1 g 42 cs) (hg : w.heap.size ≤ g) (j : Nat) (a : Value) : RMastTo w (w1.setCell ⟨g, j, none⟩ a) R r vv vv' M' := by
  have hu : Upd (fun k => k = g) w1 (w1.setCell ⟨g, j, none⟩ a) := (Upd.refl (fun k => k = g) w1).setCell (p := ⟨g, j, none⟩) (.inl rfl) _
  exact ⟨h.mast.upd hu (fun k t hb ht e => BlkOf.ne (e ▸ hb : BlkOf w1 g t) he.blk (by intro e2; subst e2; revert ht; unfold RefTy; decide) rfl) (fun k hk e => BlkOf.ne (e ▸ ownsRow_blk h.mast.row hk : BlkOf w1 g _) he.blk (by decide) rfl), h.upd.trans hu (fun _ e => .inr (e ▸ hg)), h.fresh⟩
/-- While a pick is under way: the master, the pick's box, the event's. -/
structure RSt (w w' : World) (R r : Nat) (vv vv' : Value) (M : Sch.Master) (sb : Nat) (pk ev : List Value) : Prop where
  mst : RMastTo w w' R r vv vv' M
  pick : RowAt w' sb 46 pk
  event : RowAt w' (sb + 1) 42 ev
  low : w.heap.size ≤ sb
theorem RSt.step (h : RSt w w' R r vv vv' M sb pk ev) (hb : Below w'.heap.size w' w2) : RSt w w2 R r vv vv' M sb pk ev :=
  ⟨h.mst.then (RMastTo.same h.mst.mast hb), h.pick.below hb, h.event.below hb, h.low⟩
theorem RSt.drew (h : RSt w w' R r vv vv' M sb pk ev) : RSt w w'.drew R r vv vv' M sb pk ev := h.step ((Below.refl _ _).drew)
theorem RSt.turn (h : RSt w w' R r vv vv' M sb pk ev) (ht : RMastTo w' w2 R r vv' vv2 M2) : RSt w w2 R r vv vv2 M2 sb pk ev :=
  ⟨h.mst.then ht, h.pick.upd ht.upd (h.mst.mast.notOf h.pick.blk (by decide) (by decide)), h.event.upd ht.upd (h.mst.mast.notOf h.event.blk (by decide) (by decide)), h.low⟩
theorem RSt.ev2 {x y : Value} (h : RSt w w' R r vv vv' M sb pk [x, y]) (a f : Value) : RSt w ((w'.setCell ⟨sb + 1, 0, none⟩ a).setCell ⟨sb + 1, 1, none⟩ f) R r vv vv' M sb pk [a, f] :=
  ⟨(h.mst.wrote h.event (by have := h.low; omega) 0 a).wrote (h.event.set 0 a) (by have := h.low; omega) 1 f, (h.pick.far (Nat.succ_ne_self _) 0 a).far (Nat.succ_ne_self _) 1 f, (h.event.set 0 a).set 1 f, h.low⟩
theorem rboxes (h : RMast w R r vv M) (d x t : Int) : RSt w ((w.alloc (.cells #[.int .u8 d, .int .i64 x, .int .i64 t] 46)).alloc (.cells #[.int .i64 0, .bool false] 42)) R r vv vv M w.heap.size (pickV d x t) [.int .i64 0, .bool false] := by
  have h1 : Below w.heap.size w (w.alloc (.cells #[.int .u8 d, .int .i64 x, .int .i64 t] 46)) := (Below.refl _ _).alloc (Nat.le_refl _) _
  have h2 : Below w.heap.size w ((w.alloc (.cells #[.int .u8 d, .int .i64 x, .int .i64 t] 46)).alloc (.cells #[.int .i64 0, .bool false] 42)) := h1.alloc (by rw [World.size_alloc]; omega) _
  refine ⟨RMastTo.same h h2, ?_, ?_, Nat.le_refl _⟩
  · exact (RowAt.made w _ _).below ((Below.refl _ _).alloc (Nat.le_refl _) _)
  · have := RowAt.made (w.alloc (.cells #[.int .u8 d, .int .i64 x, .int .i64 t] 46)) #[.int .i64 0, .bool false] 42
    rw [World.size_alloc] at this
    exact this
theorem RMast.over (h : RMast w R r vv M) : w.cell? ⟨r, 3, none⟩ = some (.int .i64 (match M.b.failed with | some t => (t : Int) | none => -1)) := by
  obtain ⟨lv, tv, nvs, hB⟩ := h.board
  exact hB.cells.2.2.2.1
theorem RMast.at_ (h : RMast w R r vv M) (hF : M.b.Fine k) (hk : k ≤ 1000000) (x : Int) : Calls Tryd.prog 48 #[.pointer (some ⟨r, 0, none⟩), .int .i64 x] w fun e w' => e = .returned (.tuple #[.int .i64 (((M.b.at_ x).getD 0 : Nat) : Int), .bool (M.b.at_ x).isSome]) ∧ w = w' := by
  obtain ⟨lv, tv, nvs, hB⟩ := h.board
  exact rat_any hB hF hk x
theorem RMast.start_ (h : RMast w R r vv M) (hF : M.b.Fine k) (hk : k ≤ 1000000) (t x : Int) : Calls Tryd.prog 65 #[.pointer (some ⟨r, 0, none⟩), .int .i64 t, .int .i64 x] w fun e w' => e = .returned (.int .i64 (M.b.start t x).2) ∧ RMastTo w w' R r vv vv ⟨(M.b.start t x).1, M.lives⟩ := by
  obtain ⟨lv, tv, nvs, hB⟩ := h.board
  exact (rstart_in hB hF hk t x).mono fun e w' ⟨he, ht⟩ => ⟨he, h.boardTo ht⟩
set_option maxRecDepth 100000 in
set_option maxHeartbeats 8000000 in
theorem rbegin_any (h : RMast w R r vv M) (hF : M.b.Fine k) (hk : k ≤ 1000000) (d : Int) (i : Nat) (t : Int) (s : Int) :
    Calls Tryd.prog 49 #[.pointer (some ⟨R, 0, none⟩), .agg #[.int .u8 d, .int .i64 (i : Int), .int .i64 t], .int .u8 s] w fun e w' => e = .returned (ansV (M.begin (i : Int) t s).2) ∧ RMastTo w w' R r vv vv (M.begin (i : Int) t s).1 := by
  have H0 := Lib.hid (rboxes h d i t)
  have HF := Lib.hid hF
  have k0 := H0.out.mst.mast.cells.1
  have kF := H0.out.mst.mast.over
  have e0 := H0.out.event.free 0; have e1 := H0.out.event.free 1
  have c0 := H0.out.event.cell 0 (by simp)
  have c1 := H0.out.event.cell 1 (by simp)
  clear h hF
  go_enter Tryd.func49, Tryd.ntmps49
  go_upto_region 1 with fail
  generalize hsb : w.heap.size = sb at *
  generalize (w.alloc (.cells #[.int .u8 d, .int .i64 (i : Int), .int .i64 t] 46)).alloc (.cells #[.int .i64 0, .bool false] 42) = wi at *
  cases hov : M.b.failed with
  | some f =>
    rw [hov] at kF
    have HL := Lib.hid (show M.begin (i : Int) t s = (M, Sch.none_ 301) from by unfold Sch.Master.begin; rw [if_pos (by rw [hov]; rfl)])
    clear hov
    go_wp2_with fail
    have H5 := Lib.hid (H0.out.ev2 (.int .i64 0) (.bool false))
    (try simp only [Exit.inBlock, Exit.then])
    refine bodyPost_ret (event_out rfl _ _ (sb + 1) _ _ rfl H5.out.event) rfl ?_
    rw [HL.out]
    exact ⟨rfl, H5.out.mst⟩
  | none =>
    rw [hov] at kF
    have HOV := Lib.hid hov
    go_wp2_with fail
    clear hov k0 c0 c1 e0 e1 kF
    have H1 := Lib.hid H0.out.drew
    have KP := Lib.hid (fun (V : World) (vv1 : Value) (M1 : Sch.Master) (ev : List Value) (hs : RSt w V R r vv vv1 M1 sb (pickV d i t) ev) => (⟨hs.mst.mast.cells.1, hs.pick.cell 1 (by simp [pickV])⟩ : V.cell? ⟨R, 0, none⟩ = some (.pointer (some ⟨r, 0, none⟩)) ∧ V.cell? ⟨sb, 1, none⟩ = some (.int .i64 (i : Int))))
    have HA := Lib.hid (H1.out.mst.mast.at_ HF.out hk (i : Int))
    go_region_held3 (fun V => V.cell? ⟨R, 0, none⟩ = some (.pointer (some ⟨r, 0, none⟩)) ∧ V.cell? ⟨sb, 1, none⟩ = some (.int .i64 (i : Int)))
      (exact KP.out _ _ _ _ H1.out)
      (first | (go_at_call 48; refine HA.out.mono ?_; rintro e wb ⟨rfl, rfl⟩))
    clear HA H0
    generalize wi.drew = wj at *
    cases hat : M.b.at_ (i : Int) with
    | some u =>
      have HL := Lib.hid (show M.begin (i : Int) t s = (M, Sch.none_ 300) from by unfold Sch.Master.begin; rw [if_neg (by rw [HOV.out]; exact Bool.false_ne_true), if_pos (by rw [hat]; rfl)])
      have e0 := H1.out.event.free 0; have e1 := H1.out.event.free 1
      have c0 : wj.cell? ⟨sb + 1, 0, none⟩ = some (.int .i64 0) := H1.out.event.cell 0 (by simp)
      have c1 : wj.cell? ⟨sb + 1, 1, none⟩ = some (.bool false) := H1.out.event.cell 1 (by simp)
      clear hat
      go_wp2_with fail
      have H5 := Lib.hid (H1.out.ev2 (.int .i64 0) (.bool false))
      (try simp only [Exit.inBlock, Exit.then])
      refine bodyPost_ret (event_out rfl _ _ (sb + 1) _ _ rfl H5.out.event) rfl ?_
      rw [HL.out]
      exact ⟨rfl, H5.out.mst⟩
    | none =>
      have HAT := Lib.hid hat
      have HIN := Lib.hid (rin_any H1.out.mst.mast HF.out hk s)
      clear hat
      go_wp2_with fail
      refine HIN.out.mono ?_
      rintro e w2 ⟨q, cap, rfl, hia, hb2, hnew⟩
      have HIA := Lib.hid hia
      have H2 := Lib.hid (H1.out.step hb2)
      have e0 := H2.out.event.free 0; have e1 := H2.out.event.free 1
      have c0 : w2.cell? ⟨sb + 1, 0, none⟩ = some (.int .i64 0) := H2.out.event.cell 0 (by simp)
      have c1 : w2.cell? ⟨sb + 1, 1, none⟩ = some (.bool false) := H2.out.event.cell 1 (by simp)
      have x2 : w2.cell? ⟨sb, 2, none⟩ = some (.int .i64 t) := H2.out.pick.cell 2 (by simp [pickV])
      clear hia hb2 hnew HIN H1
      by_cases hnil : M.list s = []
      · have HL := Lib.hid (show M.begin (i : Int) t s = (M, Sch.none_ 3) from by unfold Sch.Master.begin; rw [if_neg (by rw [HOV.out]; exact Bool.false_ne_true), if_neg (by rw [HAT.out]; exact Bool.false_ne_true), if_pos hnil])
        have hz : (numsI (M.list s)).length = 0 := by rw [numsI_len, hnil]; rfl
        rw [hz] at *
        clear hnil hz
        go_wp2_with fail
        have H5 := Lib.hid (H2.out.ev2 (.int .i64 0) (.bool false))
        (try simp only [Exit.inBlock, Exit.then])
        refine bodyPost_ret (event_out rfl _ _ (sb + 1) _ _ rfl H5.out.event) rfl ?_
        rw [HL.out]
        exact ⟨rfl, H5.out.mst⟩
      · have hpos : 0 < (numsI (M.list s)).length := by rw [numsI_len]; exact List.length_pos_iff.2 hnil
        have hsm : (M.list s).length ≤ 1000000 := by
          have := listTo_len M.b s M.b.l.length
          rw [listTo_all] at this
          have := HF.out.len
          omega
        have hrd := rround_any q cap (M.list s) t w2 hnil hsm HIA.out
        obtain ⟨xt, hxt⟩ : ∃ xt, (M.list s).getD (Sch.round t (M.list s).length) 0 = xt := ⟨_, rfl⟩
        have HL := Lib.hid (show M.begin (i : Int) t s = (⟨(M.b.start xt (i : Int)).1, M.lives⟩, ⟨xt, false, (M.b.start xt (i : Int)).2⟩) from by
          unfold Sch.Master.begin; rw [if_neg (by rw [HOV.out]; exact Bool.false_ne_true), if_neg (by rw [HAT.out]; exact Bool.false_ne_true), if_neg hnil]; simp only [hxt])
        rw [hxt] at hrd
        have HRD := Lib.hid hrd
        clear hrd hxt hnil hsm
        generalize hn : (numsI (M.list s)).length = n at *
        clear HIA
        go_wp2_with fail
        refine HRD.out.mono ?_
        rintro e wz ⟨rfl, rfl⟩
        clear HRD x2 c0 c1 e0 e1
        go_wp2_with fail
        have H4 := Lib.hid H2.out.drew
        have HA := Lib.hid (H4.out.mst.mast.start_ HF.out hk (xt : Int) (i : Int))
        obtain ⟨⟨b2, se⟩, hse⟩ : ∃ q, M.b.start (xt : Int) (i : Int) = q := ⟨_, rfl⟩
        rw [hse] at HA HL
        clear hse H2
        go_region_held3 (fun V => V.cell? ⟨R, 0, none⟩ = some (.pointer (some ⟨r, 0, none⟩)) ∧ V.cell? ⟨sb, 1, none⟩ = some (.int .i64 (i : Int)))
          (first | exact KP.out _ _ _ _ H4.out | exact KP.out _ _ _ _ HTA.out | exact KP.out _ _ _ _ HTS.out)
          (first | (go_at_call 65; refine HA.out.mono ?_; rintro e wb ⟨rfl, g1⟩; have HTA := Lib.hid (H4.out.turn g1); have ce0 : wb.cell? ⟨sb + 1, 0, none⟩ = some (.int .i64 0) := HTA.out.event.cell 0 (by simp); have ce1 : wb.cell? ⟨sb + 1, 1, none⟩ = some (.bool false) := HTA.out.event.cell 1 (by simp); have cf0 := HTA.out.event.free 0; have cf1 := HTA.out.event.free 1; have HTS := Lib.hid (HTA.out.ev2 (.int .i64 (xt : Int)) (.bool false)); clear g1))
        go_wp2_with fail
        (try simp only [Exit.inBlock, Exit.then])
        refine bodyPost_ret (event_out rfl _ _ (sb + 1) _ _ rfl HTS.out.event) rfl ?_
        rw [HL.out]
        exact ⟨rfl, HTS.out.mst⟩
end
end Go.Proofs.YtgmhglcdifhimaaDoor
