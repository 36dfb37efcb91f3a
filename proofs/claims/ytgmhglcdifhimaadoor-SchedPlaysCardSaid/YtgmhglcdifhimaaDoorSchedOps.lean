/- maslin/sched: what each pick does, walked: Board, wake, die, fail, finish. -/
import Derived.Test.YtgmhglcdifhimaaDoorSchedRep
import Derived.Deep.RegionHeld3
import Derived.BigQuiet
import Derived.Laws.ResultCell
import Derived.Deep.QuietTactic
import Derived.WalkSpells
namespace Go.Proofs.YtgmhglcdifhimaaDoor
open Go.RowKit Go.Maps
open Tsk

def ansV (a : Sch.Ans) : Value := .tuple #[.agg #[.int .i64 a.t, .bool a.first], .int .i64 a.e]
def pickV (d : Int) (x t : Int) : List Value := [.int .u8 d, .int .i64 x, .int .i64 t]
section
variable {w w' w1 w2 : World} {P p m k sb : Nat} {lv vv : Value} {nvs : List Value} {M M' : Sch.Master}
theorem MastTo.past {g : Nat} (h : MastTo w w1 P p m lv nvs vv M') (hu : Upd (fun k => k = g) w1 w2) (hg : w.heap.size ≤ g) {T : TypeId} (hb : BlkOf w1 g T) (h1 : T ≠ 79) (h2 : T ≠ 4) (h3 : T ≠ 83) (h4 : T ≠ 87) (h5 : T ≠ 3) (h0 : 0 < g) : MastTo w w2 P p m lv nvs vv M' :=
  ⟨h.mast.upd hu (fun k hk e => h.mast.notOf (e ▸ hb : BlkOf w1 k T) h1 h2 h3 h4 hk) (fun k hk e => BlkOf.ne (e ▸ hb : BlkOf w1 k T) hk h5 rfl) (fun e => by omega), h.upd.trans hu (fun _ e => .inr (e ▸ hg))⟩
theorem MastTo.of_below (hb : Below w.heap.size w w1) (h' : MastTo w1 w2 P p m lv nvs vv M') : MastTo w w2 P p m lv nvs vv M' :=
  ⟨h'.mast, (Upd.of_below hb).trans h'.upd (fun _ hi => .inl hi)⟩
theorem MastTo.then {w3 : World} {M2 : Sch.Master} (h : MastTo w w1 P p m lv nvs vv M') (h' : MastTo w1 w3 P p m lv nvs vv M2) : MastTo w w3 P p m lv nvs vv M2 :=
  ⟨h'.mast, h.upd.trans h'.upd (fun _ hi => .inl hi)⟩
theorem MastTo.event {g : Nat} {cs : List Value} (h : MastTo w w1 P p m lv nvs vv M') (he : RowAt w1 g 42 cs) (hg : w.heap.size ≤ g) (h0 : 0 < g) (a f : Value) : MastTo w ((w1.setCell ⟨g, 0, none⟩ a).setCell ⟨g, 1, none⟩ f) P p m lv nvs vv M' :=
  h.past (((Upd.refl (fun k => k = g) w1).setCell (p := ⟨g, 0, none⟩) (.inl rfl) _).setCell (p := ⟨g, 1, none⟩) (.inl rfl) _) hg he.blk (by decide) (by decide) (by decide) (by decide) (by decide) h0
theorem MastTo.wrote {g : Nat} {cs : List Value} (h : MastTo w w1 P p m lv nvs vv M') (he : RowAt w1 g 42 cs) (hg : w.heap.size ≤ g) (h0 : 0 < g) (j : Nat) (a : Value) : MastTo w (w1.setCell ⟨g, j, none⟩ a) P p m lv nvs vv M' :=
  h.past ((Upd.refl (fun k => k = g) w1).setCell (p := ⟨g, j, none⟩) (.inl rfl) _) hg he.blk (by decide) (by decide) (by decide) (by decide) (by decide) h0
set_option maxRecDepth 100000 in
theorem event_out {fn : Func} {q u : Tmp} (h : fn.results = #[.cell q 42, .tmp u]) (tmps : Array Value) (w : World) (g : Nat) (a : Int) (f : Bool) (hq : tmps.getD q undef = .pointer (some ⟨g, 0, none⟩)) (hr : RowAt w g 42 [.int .i64 a, .bool f]) :
    (results fn tmps).run Tryd.prog w = .ok (.tuple #[.agg #[.int .i64 a, .bool f], tmps.getD u undef]) w := by
  have c0 : w.cell? ⟨g, 0, none⟩ = some (.int .i64 a) := hr.cell 0 (by simp)
  have c1 : w.cell? ⟨g, 1, none⟩ = some (.bool f) := hr.cell 1 (by simp)
  rw [results_cell_tmp h, hq]
  go_simp
/-- The two boxes that a pick's function begins with. -/
theorem boxes (h : MastIn w P p m lv nvs vv M) (d x t : Int) : Below w.heap.size w ((w.alloc (.cells #[.int .u8 d, .int .i64 x, .int .i64 t] 46)).alloc (.cells #[.int .i64 0, .bool false] 42)) ∧
    MastIn ((w.alloc (.cells #[.int .u8 d, .int .i64 x, .int .i64 t] 46)).alloc (.cells #[.int .i64 0, .bool false] 42)) P p m lv nvs vv M ∧
    RowAt ((w.alloc (.cells #[.int .u8 d, .int .i64 x, .int .i64 t] 46)).alloc (.cells #[.int .i64 0, .bool false] 42)) w.heap.size 46 (pickV d x t) ∧
    RowAt ((w.alloc (.cells #[.int .u8 d, .int .i64 x, .int .i64 t] 46)).alloc (.cells #[.int .i64 0, .bool false] 42)) (w.heap.size + 1) 42 [.int .i64 0, .bool false] := by
  have h1 : Below w.heap.size w (w.alloc (.cells #[.int .u8 d, .int .i64 x, .int .i64 t] 46)) := (Below.refl _ _).alloc (Nat.le_refl _) _
  have h2 : Below w.heap.size w ((w.alloc (.cells #[.int .u8 d, .int .i64 x, .int .i64 t] 46)).alloc (.cells #[.int .i64 0, .bool false] 42)) := h1.alloc (by rw [World.size_alloc]; omega) _
  refine ⟨h2, h.below h2, ?_, ?_⟩
  · exact (RowAt.made w _ _).below ((Below.refl _ _).alloc (Nat.le_refl _) _)
  · have := RowAt.made (w.alloc (.cells #[.int .u8 d, .int .i64 x, .int .i64 t] 46)) #[.int .i64 0, .bool false] 42
    rw [World.size_alloc] at this
    exact this
set_option maxRecDepth 100000 in
theorem board_any (h : MastIn w P p m lv nvs vv M) : Calls Tryd.prog 12 #[.pointer (some ⟨P, 0, none⟩)] w fun e w' => e = .returned (.pointer (some ⟨p, 0, none⟩)) ∧ w = w' := by
  obtain ⟨c0, _, _⟩ := h.cells
  clear h
  go_enter Tryd.func12, Tryd.ntmps12
  go_wp2_with fail
  go_ret
  exact ⟨rfl, rfl⟩
set_option maxRecDepth 100000 in
set_option maxHeartbeats 2000000 in
theorem mdie_any (h : MastIn w P p m lv nvs vv M) (hF : M.b.Fine k) (hk : k ≤ 1000000) (d : Int) (i : Nat) (t : Int) (hi : i < M.lives.length) (hl : M.lives.length ≤ 16) (s : List UInt8) :
    Calls Tryd.prog 121 #[.pointer (some ⟨P, 0, none⟩), .agg #[.int .u8 d, .int .i64 (i : Int), .int .i64 t], .string (bs s)] w fun e w' => e = .returned (ansV (M.die i).2) ∧ MastTo w w' P p m lv nvs vv (M.die i).1 := by
  have hx : (Lit.int .i64 (i : Int)).wf = true := WalkArith.wf_i64 (by omega)
  obtain ⟨hbx, hmx, hpx, hex⟩ := boxes h d i t
  have HT0 := Lib.hid (MastTo.below h hbx)
  have HF := Lib.hid hF
  have HSZ := Lib.hid (⟨Nat.le_succ _, Nat.succ_pos _⟩ : w.heap.size ≤ w.heap.size + 1 ∧ 0 < w.heap.size + 1)
  clear h hF
  go_enter Tryd.func121, Tryd.ntmps121
  go_wp2_with fail
  generalize hsb : w.heap.size = sb at *
  generalize (w.alloc (.cells #[.int .u8 d, .int .i64 (i : Int), .int .i64 t] 46)).alloc (.cells #[.int .i64 0, .bool false] 42) = wi at *
  have hdr : Below wi.heap.size wi wi.drew := (Below.refl _ _).drew
  have HM1 := Lib.hid (hmx.below hdr)
  have HX1 := Lib.hid (hpx.below hdr)
  have HE1 := Lib.hid (hex.below hdr)
  have HT1 := Lib.hid (HT0.out.then (MastTo.below hmx hdr))
  have KP := Lib.hid (fun (V : World) (hm : MastIn V P p m lv nvs vv M) (hb : RowAt V sb 46 (pickV d i t)) => (⟨hm.cells.1, hb.cell 1 (by simp [pickV])⟩ : V.cell? ⟨P, 0, none⟩ = some (.pointer (some ⟨p, 0, none⟩)) ∧ V.cell? ⟨sb, 1, none⟩ = some (.int .i64 (i : Int))))
  have HA := Lib.hid (at_any HM1.out.board (i : Int) hx)
  clear hdr hmx hpx hex hbx HT0
  go_region_held3 (fun V => V.cell? ⟨P, 0, none⟩ = some (.pointer (some ⟨p, 0, none⟩)) ∧ V.cell? ⟨sb, 1, none⟩ = some (.int .i64 (i : Int)))
    (exact KP.out _ HM1.out HX1.out)
    (first | (go_at_call 13; refine HA.out.mono ?_; rintro e wb ⟨rfl, rfl⟩))
  generalize wi.drew = wj at *
  clear KP HA
  go_wp2_with fail
  have hdr : Below wj.heap.size wj wj.drew := (Below.refl _ _).drew
  have HM2 := Lib.hid (HM1.out.below hdr)
  have HX2 := Lib.hid (HX1.out.below hdr)
  have HE2 := Lib.hid (HE1.out.below hdr)
  have HT2 := Lib.hid (HT1.out.then (MastTo.below HM1.out hdr))
  have KP := Lib.hid (fun (V : World) (hm : V.cell? ⟨P, 0, none⟩ = some (.pointer (some ⟨p, 0, none⟩))) (hb : RowAt V sb 46 (pickV d i t)) => (⟨hm, hb.cell 1 (by simp [pickV])⟩ : V.cell? ⟨P, 0, none⟩ = some (.pointer (some ⟨p, 0, none⟩)) ∧ V.cell? ⟨sb, 1, none⟩ = some (.int .i64 (i : Int))))
  have HA := Lib.hid (fail_any HM2.out.board HF.out (by omega) (i : Int) hx)
  clear hdr
  go_region_held3 (fun V => V.cell? ⟨P, 0, none⟩ = some (.pointer (some ⟨p, 0, none⟩)) ∧ V.cell? ⟨sb, 1, none⟩ = some (.int .i64 (i : Int)))
    (first | exact KP.out _ HM2.out.cells.1 HX2.out | exact KP.out _ HMA.out.mast.cells.1 HXA.out)
    (first | (go_at_call 125; refine HA.out.mono ?_; rintro e wb ⟨rfl, g1⟩; have HMA := Lib.hid (HM2.out.boardTo g1 (fail_len _).1); have HXA := Lib.hid (HX2.out.upd HMA.out.upd (HM2.out.notOf HX2.out.blk (by decide) (by decide) (by decide) (by decide))); have HEA := Lib.hid (HE2.out.upd HMA.out.upd (HM2.out.notOf HE2.out.blk (by decide) (by decide) (by decide) (by decide))); clear g1))
  have HTA := Lib.hid (HT2.out.then HMA.out)
  clear HA KP HT2 HM2 HX2 HE2 HT1 HM1 HX1 HE1
  go_wp2_with fail
  have hdr : Below wb.heap.size wb wb.drew := (Below.refl _ _).drew
  have HM3 := Lib.hid (HMA.out.mast.below hdr)
  have HX3 := Lib.hid (HXA.out.below hdr)
  have HE3 := Lib.hid (HEA.out.below hdr)
  have HT3 := Lib.hid (HTA.out.then (MastTo.below HMA.out.mast hdr))
  clear hdr
  obtain ⟨g, cap, ev, hix, hc, hfz, hset⟩ := HMA.out.mast.slice (i := i) hi
  have hbg : BlkOf wb g 4 := ownsRow_blk HMA.out.mast.row (by rw [ev]; rfl)
  have HS := Lib.hid (hset false)
  have HE4 := Lib.hid ((HEA.out.far (BlkOf.ne hbg HEA.out.blk (by decide)) i (.bool false)).below ((Below.refl _ _).drew))
  have HT4 := Lib.hid ((HTA.out.then (hset false)).then (MastTo.below (hset false).mast (Below.refl _ _).drew))
  clear hset ev hbg
  have c1 := HM3.out.cells.2.1
  have x1 : wb.drew.cell? ⟨sb, 1, none⟩ = some (.int .i64 (i : Int)) := HX3.out.cell 1 (by simp [pickV])
  have hfz : wb.drew.frozen? ⟨g, i, none⟩ = false := hfz i
  go_region
  clear HX3 HE3 HT3 hfz x1 c1 hc hix HM3 HS HMA HXA HEA HTA
  generalize (wb.setCell ⟨g, i, none⟩ (.bool false)).drew = w4 at *
  have e0 := HE4.out.free 0; have e1 := HE4.out.free 1
  have c0 : w4.cell? ⟨sb + 1, 0, none⟩ = some (.int .i64 0) := HE4.out.cell 0 (by simp)
  have c1 : w4.cell? ⟨sb + 1, 1, none⟩ = some (.bool false) := HE4.out.cell 1 (by simp)
  go_wp2_with fail
  have HE5 := Lib.hid ((HE4.out.set 0 (.int .i64 (((M.b.at_ (i : Int)).getD 0 : Nat) : Int))).set 1 (.bool false))
  (try simp only [Exit.inBlock, Exit.then])
  refine bodyPost_ret (event_out rfl _ _ (sb + 1) _ _ rfl HE5.out) rfl ?_
  exact ⟨rfl, HT4.out.event HE4.out (by omega) (Nat.succ_pos _) _ _⟩
set_option maxRecDepth 100000 in
set_option maxHeartbeats 2000000 in
theorem mfail_any (h : MastIn w P p m lv nvs vv M) (hF : M.b.Fine k) (hk : k ≤ 1000000) (d : Int) (i : Nat) (t : Int) (hi : i < M.lives.length) (hl : M.lives.length ≤ 16) (s : List UInt8) :
    Calls Tryd.prog 120 #[.pointer (some ⟨P, 0, none⟩), .agg #[.int .u8 d, .int .i64 (i : Int), .int .i64 t], .string (bs s)] w fun e w' => e = .returned (ansV (M.fail (i : Int)).2) ∧ MastTo w w' P p m lv nvs vv (M.fail (i : Int)).1 := by
  have hx : (Lit.int .i64 (i : Int)).wf = true := WalkArith.wf_i64 (by omega)
  obtain ⟨hbx, hmx, hpx, hex⟩ := boxes h d i t
  have HT0 := Lib.hid (MastTo.below h hbx)
  have HF := Lib.hid hF
  have HSZ := Lib.hid (⟨Nat.le_succ _, Nat.succ_pos _⟩ : w.heap.size ≤ w.heap.size + 1 ∧ 0 < w.heap.size + 1)
  clear h hF
  go_enter Tryd.func120, Tryd.ntmps120
  go_wp2_with fail
  generalize hsb : w.heap.size = sb at *
  generalize (w.alloc (.cells #[.int .u8 d, .int .i64 (i : Int), .int .i64 t] 46)).alloc (.cells #[.int .i64 0, .bool false] 42) = wi at *
  have hdr : Below wi.heap.size wi wi.drew := (Below.refl _ _).drew
  have HM1 := Lib.hid (hmx.below hdr)
  have HX1 := Lib.hid (hpx.below hdr)
  have HE1 := Lib.hid (hex.below hdr)
  have HT1 := Lib.hid (HT0.out.then (MastTo.below hmx hdr))
  have KP := Lib.hid (fun (V : World) (hm : MastIn V P p m lv nvs vv M) (hb : RowAt V sb 46 (pickV d i t)) => (⟨hm.cells.1, hb.cell 1 (by simp [pickV])⟩ : V.cell? ⟨P, 0, none⟩ = some (.pointer (some ⟨p, 0, none⟩)) ∧ V.cell? ⟨sb, 1, none⟩ = some (.int .i64 (i : Int))))
  have HA := Lib.hid (at_any HM1.out.board (i : Int) hx)
  clear hdr hmx hpx hex hbx HT0
  go_region_held3 (fun V => V.cell? ⟨P, 0, none⟩ = some (.pointer (some ⟨p, 0, none⟩)) ∧ V.cell? ⟨sb, 1, none⟩ = some (.int .i64 (i : Int)))
    (exact KP.out _ HM1.out HX1.out)
    (first | (go_at_call 13; refine HA.out.mono ?_; rintro e wb ⟨rfl, rfl⟩))
  generalize wi.drew = wj at *
  clear KP HA
  go_wp2_with fail
  have hdr : Below wj.heap.size wj wj.drew := (Below.refl _ _).drew
  have HM2 := Lib.hid (HM1.out.below hdr)
  have HX2 := Lib.hid (HX1.out.below hdr)
  have HE2 := Lib.hid (HE1.out.below hdr)
  have HT2 := Lib.hid (HT1.out.then (MastTo.below HM1.out hdr))
  have KP := Lib.hid (fun (V : World) (hm : V.cell? ⟨P, 0, none⟩ = some (.pointer (some ⟨p, 0, none⟩))) (hb : RowAt V sb 46 (pickV d i t)) => (⟨hm, hb.cell 1 (by simp [pickV])⟩ : V.cell? ⟨P, 0, none⟩ = some (.pointer (some ⟨p, 0, none⟩)) ∧ V.cell? ⟨sb, 1, none⟩ = some (.int .i64 (i : Int))))
  have HA := Lib.hid (fail_any HM2.out.board HF.out (by omega) (i : Int) hx)
  clear hdr
  go_region_held3 (fun V => V.cell? ⟨P, 0, none⟩ = some (.pointer (some ⟨p, 0, none⟩)) ∧ V.cell? ⟨sb, 1, none⟩ = some (.int .i64 (i : Int)))
    (first | exact KP.out _ HM2.out.cells.1 HX2.out | exact KP.out _ HMA.out.mast.cells.1 HXA.out)
    (first | (go_at_call 125; refine HA.out.mono ?_; rintro e wb ⟨rfl, g1⟩; have HMA := Lib.hid (HM2.out.boardTo g1 (fail_len _).1); have HXA := Lib.hid (HX2.out.upd HMA.out.upd (HM2.out.notOf HX2.out.blk (by decide) (by decide) (by decide) (by decide))); have HEA := Lib.hid (HE2.out.upd HMA.out.upd (HM2.out.notOf HE2.out.blk (by decide) (by decide) (by decide) (by decide))); clear g1))
  have HTA := Lib.hid (HT2.out.then HMA.out)
  clear HA KP HT2 HM2 HX2 HE2 HT1 HM1 HX1 HE1
  have e0 := HEA.out.free 0; have e1 := HEA.out.free 1
  have c0 : wb.cell? ⟨sb + 1, 0, none⟩ = some (.int .i64 0) := HEA.out.cell 0 (by simp)
  have c1 : wb.cell? ⟨sb + 1, 1, none⟩ = some (.bool false) := HEA.out.cell 1 (by simp)
  by_cases hz : (M.b.fail (i : Int)).2 = 0
  · have HZ := Lib.hid (show (M.fail (i : Int)).2 = ⟨M.at_ i, false, 0⟩ from if_pos hz)
    rw [hz]
    clear hz
    go_wp2_with fail
    have HE5 := Lib.hid ((HEA.out.set 0 (.int .i64 (((M.b.at_ (i : Int)).getD 0 : Nat) : Int))).set 1 (.bool false))
    (try simp only [Exit.inBlock, Exit.then])
    refine bodyPost_ret (event_out rfl _ _ (sb + 1) _ _ rfl HE5.out) rfl ?_
    exact ⟨by rw [HZ.out]; rfl, HTA.out.event HEA.out (by omega) (Nat.succ_pos _) _ _⟩
  · have HZ := Lib.hid (show (M.fail (i : Int)).2 = Sch.none_ (M.b.fail (i : Int)).2 from if_neg hz)
    have hn : ((M.b.fail (i : Int)).2 != 0) = true := by simpa using hz
    clear hz
    generalize hfe : (M.b.fail (i : Int)).2 = fe at *
    go_wp2_with fail
    have HE5 := Lib.hid ((HEA.out.set 0 (.int .i64 0)).set 1 (.bool false))
    (try simp only [Exit.inBlock, Exit.then])
    refine bodyPost_ret (event_out rfl _ _ (sb + 1) _ _ rfl HE5.out) rfl ?_
    exact ⟨by rw [HZ.out]; rfl, HTA.out.event HEA.out (by omega) (Nat.succ_pos _) _ _⟩
set_option maxRecDepth 100000 in
set_option maxHeartbeats 2000000 in
theorem mwake_any (h : MastIn w P p m lv nvs vv M) (d : Int) (i : Nat) (t : Int) (hi : i < M.lives.length) (hl : M.lives.length ≤ 16) (s : List UInt8) :
    Calls Tryd.prog 122 #[.pointer (some ⟨P, 0, none⟩), .agg #[.int .u8 d, .int .i64 (i : Int), .int .i64 t], .string (bs s)] w fun e w' => e = .returned (ansV (M.wake i).2) ∧ MastTo w w' P p m lv nvs vv (M.wake i).1 := by
  have hx : (Lit.int .i64 (i : Int)).wf = true := WalkArith.wf_i64 (by omega)
  obtain ⟨hbx, hmx, hpx, hex⟩ := boxes h d i t
  have HT0 := Lib.hid (MastTo.below h hbx)
  have HSZ := Lib.hid (⟨Nat.le_succ _, Nat.succ_pos _⟩ : w.heap.size ≤ w.heap.size + 1 ∧ 0 < w.heap.size + 1)
  clear h
  go_enter Tryd.func122, Tryd.ntmps122
  go_wp2_with fail
  generalize hsb : w.heap.size = sb at *
  generalize (w.alloc (.cells #[.int .u8 d, .int .i64 (i : Int), .int .i64 t] 46)).alloc (.cells #[.int .i64 0, .bool false] 42) = wi at *
  have hdr : Below wi.heap.size wi wi.drew := (Below.refl _ _).drew
  have HT1 := Lib.hid (HT0.out.then (MastTo.below hmx hdr))
  have HM1 := Lib.hid (hmx.below hdr)
  have HX1 := Lib.hid (hpx.below hdr)
  have HE1 := Lib.hid (hex.below hdr)
  clear hdr hmx hpx hex hbx HT0
  obtain ⟨g, cap, ev, hix, hc, hfz, hset⟩ := HM1.out.slice (i := i) hi
  have HEV := Lib.hid ev
  have HSET := Lib.hid hset
  clear hset ev
  have k1 : wi.drew.cell? ⟨P, 1, none⟩ = some vv := HM1.out.cells.2.1
  have x1 : wi.drew.cell? ⟨sb, 1, none⟩ = some (.int .i64 (i : Int)) := HX1.out.cell 1 (by simp [pickV])
  cases hli : M.lives.getD i false with
  | true =>
    rw [hli] at hc
    have HL := Lib.hid (show M.wake i = (M, Sch.none_ 2) from by unfold Sch.Master.wake; rw [if_pos hli])
    clear hli
    go_region
    clear x1 k1 hc hix
    generalize wi.drew = w4 at *
    have e0 := HE1.out.free 0; have e1 := HE1.out.free 1
    have c0 : w4.cell? ⟨sb + 1, 0, none⟩ = some (.int .i64 0) := HE1.out.cell 0 (by simp)
    have c1 : w4.cell? ⟨sb + 1, 1, none⟩ = some (.bool false) := HE1.out.cell 1 (by simp)
    go_wp2_with fail
    have HE5 := Lib.hid ((HE1.out.set 0 (.int .i64 0)).set 1 (.bool false))
    (try simp only [Exit.inBlock, Exit.then])
    refine bodyPost_ret (event_out rfl _ _ (sb + 1) _ _ rfl HE5.out) rfl ?_
    rw [HL.out]
    exact ⟨rfl, HT1.out.event HE1.out (by omega) (Nat.succ_pos _) _ _⟩
  | false =>
    rw [hli] at hc
    have HL := Lib.hid (show M.wake i = (⟨M.b, M.lives.set i true⟩, Sch.none_ 0) from by unfold Sch.Master.wake; rw [if_neg (by rw [hli]; exact Bool.false_ne_true)])
    clear hli
    go_region
    clear x1 k1 hc hfz
    generalize wi.drew = wj at *
    go_wp2_with fail
    have hdr : Below wj.heap.size wj wj.drew := (Below.refl _ _).drew
    have k1 : wj.drew.cell? ⟨P, 1, none⟩ = some vv := (HM1.out.below hdr).cells.2.1
    have x1 : wj.drew.cell? ⟨sb, 1, none⟩ = some (.int .i64 (i : Int)) := (HX1.out.below hdr).cell 1 (by simp [pickV])
    have hbg : BlkOf wj g 4 := ownsRow_blk HM1.out.row (by rw [HEV.out]; rfl)
    have hfz : wj.drew.frozen? ⟨g, i, none⟩ = false := by
      obtain ⟨g', cap', ev', _, _, hfz', _⟩ := HM1.out.slice (i := i) hi
      have := HEV.out.symm.trans ev'
      injection this with this _ _
      injection this with this
      injection this with this _ _
      subst this
      exact hfz' i
    have hc : wj.drew.cell? ⟨g, i, none⟩ = some (.bool (M.lives.getD i false)) := by
      obtain ⟨g', cap', ev', _, hc', _, _⟩ := HM1.out.slice (i := i) hi
      have := HEV.out.symm.trans ev'
      injection this with this _ _
      injection this with this
      injection this with this _ _
      subst this
      exact hc'
    have HE4 := Lib.hid ((HE1.out.far (BlkOf.ne hbg HE1.out.blk (by decide)) i (.bool true)).below ((Below.refl _ _).drew))
    have HT4 := Lib.hid ((HT1.out.then (HSET.out true)).then (MastTo.below (HSET.out true).mast (Below.refl _ _).drew))
    clear hdr hbg
    go_region
    clear x1 k1 hc hix hfz HSET HE1 HT1 HM1
    generalize (wj.setCell ⟨g, i, none⟩ (.bool true)).drew = w4 at *
    have e0 := HE4.out.free 0; have e1 := HE4.out.free 1
    have c0 : w4.cell? ⟨sb + 1, 0, none⟩ = some (.int .i64 0) := HE4.out.cell 0 (by simp)
    have c1 : w4.cell? ⟨sb + 1, 1, none⟩ = some (.bool false) := HE4.out.cell 1 (by simp)
    go_wp2_with fail
    have HE5 := Lib.hid ((HE4.out.set 0 (.int .i64 0)).set 1 (.bool false))
    (try simp only [Exit.inBlock, Exit.then])
    refine bodyPost_ret (event_out rfl _ _ (sb + 1) _ _ rfl HE5.out) rfl ?_
    rw [HL.out]
    exact ⟨rfl, HT4.out.event HE4.out (by omega) (Nat.succ_pos _) _ _⟩
set_option maxRecDepth 100000 in
set_option maxHeartbeats 2000000 in
theorem mfinish_any (h : MastIn w P p m lv nvs vv M) (hF : M.b.Fine k) (d : Int) (i : Nat) (t : Int) (hi : i < M.lives.length) (hl : M.lives.length ≤ 16) (s : List UInt8) :
    Calls Tryd.prog 119 #[.pointer (some ⟨P, 0, none⟩), .agg #[.int .u8 d, .int .i64 (i : Int), .int .i64 t], .string (bs s)] w fun e w' => e = .returned (ansV (M.finish (i : Int) s).2) ∧ MastTo w w' P p m lv nvs vv (M.finish (i : Int) s).1 := by
  have hx : (Lit.int .i64 (i : Int)).wf = true := WalkArith.wf_i64 (by omega)
  obtain ⟨hbx, hmx, hpx, hex⟩ := boxes h d i t
  have HT0 := Lib.hid (MastTo.below h hbx)
  have HF := Lib.hid hF
  have HSZ := Lib.hid (⟨Nat.le_succ _, Nat.succ_pos _⟩ : w.heap.size ≤ w.heap.size + 1 ∧ 0 < w.heap.size + 1)
  clear h hF
  go_enter Tryd.func119, Tryd.ntmps119
  go_wp2_with fail
  generalize hsb : w.heap.size = sb at *
  generalize (w.alloc (.cells #[.int .u8 d, .int .i64 (i : Int), .int .i64 t] 46)).alloc (.cells #[.int .i64 0, .bool false] 42) = wi at *
  have hdr : Below wi.heap.size wi wi.drew := (Below.refl _ _).drew
  have HM1 := Lib.hid (hmx.below hdr)
  have HX1 := Lib.hid (hpx.below hdr)
  have HE1 := Lib.hid (hex.below hdr)
  have HT1 := Lib.hid (HT0.out.then (MastTo.below hmx hdr))
  have KP := Lib.hid (fun (V : World) (hm : MastIn V P p m lv nvs vv M) (hb : RowAt V sb 46 (pickV d i t)) => (⟨hm.cells.1, hb.cell 1 (by simp [pickV])⟩ : V.cell? ⟨P, 0, none⟩ = some (.pointer (some ⟨p, 0, none⟩)) ∧ V.cell? ⟨sb, 1, none⟩ = some (.int .i64 (i : Int))))
  have HA := Lib.hid (at_any HM1.out.board (i : Int) hx)
  clear hdr hmx hpx hex hbx HT0
  go_region_held3 (fun V => V.cell? ⟨P, 0, none⟩ = some (.pointer (some ⟨p, 0, none⟩)) ∧ V.cell? ⟨sb, 1, none⟩ = some (.int .i64 (i : Int)))
    (exact KP.out _ HM1.out HX1.out)
    (first | (go_at_call 13; refine HA.out.mono ?_; rintro e wb ⟨rfl, rfl⟩))
  generalize wi.drew = wj at *
  clear KP HA
  go_wp2_with fail
  have hdr : Below wj.heap.size wj wj.drew := (Below.refl _ _).drew
  have HM2 := Lib.hid (HM1.out.below hdr)
  have HX2 := Lib.hid (HX1.out.below hdr)
  have HE2 := Lib.hid (HE1.out.below hdr)
  have HT2 := Lib.hid (HT1.out.then (MastTo.below HM1.out hdr))
  have KP := Lib.hid (fun (V : World) (hm : V.cell? ⟨P, 0, none⟩ = some (.pointer (some ⟨p, 0, none⟩))) (hb : RowAt V sb 46 (pickV d i t)) => (⟨hm, hb.cell 1 (by simp [pickV])⟩ : V.cell? ⟨P, 0, none⟩ = some (.pointer (some ⟨p, 0, none⟩)) ∧ V.cell? ⟨sb, 1, none⟩ = some (.int .i64 (i : Int))))
  have HA := Lib.hid (commit_any HM2.out.board HF.out (i : Int) hx s)
  clear hdr
  go_region_held3 (fun V => V.cell? ⟨P, 0, none⟩ = some (.pointer (some ⟨p, 0, none⟩)) ∧ V.cell? ⟨sb, 1, none⟩ = some (.int .i64 (i : Int)))
    (first | exact KP.out _ HM2.out.cells.1 HX2.out | exact KP.out _ HMA.out.mast.cells.1 HXA.out | exact KP.out _ HTC.out.mast.cells.1 HXC.out)
    (first | (go_at_call 124; refine HA.out.mono ?_; rintro e wb ⟨rfl, g1⟩; have HMA := Lib.hid (HM2.out.boardTo g1 (commit_len _ _).1); have HXA := Lib.hid (HX2.out.upd HMA.out.upd (HM2.out.notOf HX2.out.blk (by decide) (by decide) (by decide) (by decide))); have HEA := Lib.hid (HE2.out.upd HMA.out.upd (HM2.out.notOf HE2.out.blk (by decide) (by decide) (by decide) (by decide))); have ce1 : wb.cell? ⟨sb + 1, 1, none⟩ = some (.bool false) := HEA.out.cell 1 (by simp); have cf1 := HEA.out.free 1; have HTC := Lib.hid ((HT2.out.then HMA.out).wrote HEA.out (by omega) (Nat.succ_pos _) 1 (.bool (M.b.commit (i : Int) s).2.1)); have HEC := Lib.hid (HEA.out.set 1 (.bool (M.b.commit (i : Int) s).2.1)); have HXC := Lib.hid (HXA.out.far (Nat.succ_ne_self _) 1 (.bool (M.b.commit (i : Int) s).2.1)); clear g1))
  clear HA KP HT2 HM2 HX2 HE2 HT1 HM1 HX1 HE1 ce1 cf1 HMA HXA HEA HXC
  generalize wb.setCell ⟨sb + 1, 1, none⟩ (.bool (M.b.commit (i : Int) s).2.1) = wc at *
  have e0 := HEC.out.free 0; have e1 := HEC.out.free 1
  have c0 : wc.cell? ⟨sb + 1, 0, none⟩ = some (.int .i64 0) := HEC.out.cell 0 (by simp)
  have c1 : wc.cell? ⟨sb + 1, 1, none⟩ = some (.bool (M.b.commit (i : Int) s).2.1) := HEC.out.cell 1 (by simp)
  by_cases hz : (M.b.commit (i : Int) s).2.2 = 0
  · have HZ := Lib.hid (show (M.finish (i : Int) s).2 = ⟨M.at_ i, (M.b.commit (i : Int) s).2.1, 0⟩ from if_pos hz)
    rw [hz]
    clear hz
    generalize (M.b.commit (i : Int) s).2.1 = cf at *
    go_wp2_with fail
    have HE5 := Lib.hid (((HEC.out.set 0 (.int .i64 (((M.b.at_ (i : Int)).getD 0 : Nat) : Int))).set 0 (.int .i64 (((M.b.at_ (i : Int)).getD 0 : Nat) : Int))).set 1 (.bool cf))
    (try simp only [Exit.inBlock, Exit.then])
    refine bodyPost_ret (event_out rfl _ _ (sb + 1) _ _ rfl HE5.out) rfl ?_
    exact ⟨by rw [HZ.out]; rfl, (HTC.out.wrote HEC.out (by omega) (Nat.succ_pos _) 0 _).event (HEC.out.set 0 _) (by omega) (Nat.succ_pos _) _ _⟩
  · have HZ := Lib.hid (show (M.finish (i : Int) s).2 = Sch.none_ (M.b.commit (i : Int) s).2.2 from if_neg hz)
    have hn : ((M.b.commit (i : Int) s).2.2 != 0) = true := by simpa using hz
    clear hz
    generalize hfe : (M.b.commit (i : Int) s).2.2 = fe at *
    generalize (M.b.commit (i : Int) s).2.1 = cf at *
    go_wp2_with fail
    have HE5 := Lib.hid ((HEC.out.set 0 (.int .i64 0)).set 1 (.bool false))
    (try simp only [Exit.inBlock, Exit.then])
    refine bodyPost_ret (event_out rfl _ _ (sb + 1) _ _ rfl HE5.out) rfl ?_
    exact ⟨by rw [HZ.out]; rfl, HTC.out.event HEC.out (by omega) (Nat.succ_pos _) _ _⟩
end
end Go.Proofs.YtgmhglcdifhimaaDoor
