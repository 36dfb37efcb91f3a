/- maslin/sched: Idle, Next, walked. -/
import Derived.Test.YtgmhglcdifhimaaDoorSchedAsk
namespace Go.Proofs.YtgmhglcdifhimaaDoor
open Go.RowKit Go.Maps Go.Sort
open Tsk

def busyF (b : Board) : Int → Bool := fun x => (b.at_ x).isSome
def idleF (b : Board) : Int → Bool := fun x => !(b.at_ x).isSome
/-- What goes on next. -/
def Sch.Master.next (M : Sch.Master) : Sch.Pick × Bool := match whoL M.lives (busyF M.b) with
  | i :: _ => (⟨2, i, 0⟩, true)
  | [] => match whoL M.lives (fun _ => true) with
    | j :: _ => if decide (0 < M.b.ready.length) && !M.b.failed.isSome then (⟨0, j, 0⟩, true) else (⟨0, 0, 0⟩, false)
    | [] => (⟨0, 0, 0⟩, false)
def pickOut (r : Sch.Pick × Bool) : Value := .tuple #[.agg #[.int .u8 (r.1.d : Int), .int .i64 r.1.w, .int .i64 r.1.t], .bool r.2]
section
variable {w w' w1 w2 : World} {P p m k : Nat} {lv vv : Value} {nvs : List Value} {M : Sch.Master}
set_option maxRecDepth 100000 in
theorem pick_out {fn : Func} {q u : Tmp} (h : fn.results = #[.cell q 46, .tmp u]) (tmps : Array Value) (w : World) (g : Nat) (d x t : Int) (hq : tmps.getD q undef = .pointer (some ⟨g, 0, none⟩)) (hr : RowAt w g 46 [.int .u8 d, .int .i64 x, .int .i64 t]) :
    (results fn tmps).run Tryd.prog w = .ok (.tuple #[.agg #[.int .u8 d, .int .i64 x, .int .i64 t], tmps.getD u undef]) w := by
  have c0 : w.cell? ⟨g, 0, none⟩ = some (.int .u8 d) := hr.cell 0 (by simp)
  have c1 : w.cell? ⟨g, 1, none⟩ = some (.int .i64 x) := hr.cell 1 (by simp)
  have c2 : w.cell? ⟨g, 2, none⟩ = some (.int .i64 t) := hr.cell 2 (by simp)
  rw [results_cell_tmp h, hq]
  go_simp
/-- The cell that holds the master, beside it. -/
def Boxed (B P p m : Nat) (lv vv : Value) (nvs : List Value) (M : Sch.Master) (V : World) : Prop := V.cell? ⟨B, 0, none⟩ = some (.pointer (some ⟨P, 0, none⟩)) ∧ MastIn V P p m lv nvs vv M
theorem Boxed.below {B : Nat} {V V' : World} (h : Boxed B P p m lv vv nvs M V) (hb : Below V.heap.size V V') : Boxed B P p m lv vv nvs M V' :=
  ⟨(hb.cell (p := ⟨B, 0, none⟩) (block_lt_of_cell h.1)).trans h.1, h.2.below hb⟩
set_option maxRecDepth 100000 in
theorem nextFn (hl : M.lives.length ≤ 16) (B : Nat) : FnTells (Boxed B P p m lv vv nvs M) (.func (.func 43) #[] #[.pointer (some ⟨B, 0, none⟩)]) (fun x => ∃ i : Nat, i < M.lives.length ∧ x = (i : Int)) (busyF M.b) :=
  ⟨_, _, _, rfl, enters_of Tryd.func43 (by kernel_rfl) rfl, fun W x hK hx => by
    obtain ⟨c, hM⟩ := hK
    obtain ⟨i, hi, rfl⟩ := hx
    have HA := Lib.hid (at_any hM.board (i : Int) (WalkArith.wf_i64 (by omega)))
    obtain ⟨c0, _, _⟩ := hM.cells
    clear hM
    unfold busyF
    generalize M.b.at_ (i : Int) = o at *
    go_enter Tryd.func43, Tryd.ntmps43
    go_wp2_with fail
    refine HA.out.mono ?_
    rintro e w1 ⟨rfl, rfl⟩
    go_wp2_with fail
    go_ret
    exact ⟨rfl, rfl⟩⟩
set_option maxRecDepth 100000 in
theorem idleFn (hl : M.lives.length ≤ 16) (B : Nat) : FnTells (Boxed B P p m lv vv nvs M) (.func (.func 45) #[] #[.pointer (some ⟨B, 0, none⟩)]) (fun x => ∃ i : Nat, i < M.lives.length ∧ x = (i : Int)) (idleF M.b) :=
  ⟨_, _, _, rfl, enters_of Tryd.func45 (by kernel_rfl) rfl, fun W x hK hx => by
    obtain ⟨c, hM⟩ := hK
    obtain ⟨i, hi, rfl⟩ := hx
    have HA := Lib.hid (at_any hM.board (i : Int) (WalkArith.wf_i64 (by omega)))
    obtain ⟨c0, _, _⟩ := hM.cells
    clear hM
    unfold idleF
    generalize M.b.at_ (i : Int) = o at *
    go_enter Tryd.func45, Tryd.ntmps45
    go_wp2_with fail
    refine HA.out.mono ?_
    rintro e w1 ⟨rfl, rfl⟩
    go_wp2_with fail
    go_ret
    exact ⟨by cases o <;> rfl, rfl⟩⟩
set_option maxRecDepth 100000 in
theorem idle_nil (w : World) : Calls Tryd.prog 24 #[.pointer none] w fun e w' => e = .returned (.slice none 0 0) ∧ Below w.heap.size w w' := by
  have hmf : ∀ (fn : Fn) (first cap : Array Value) (w : World), (Instr.makeFunc fn first cap).run Tryd.prog w = .ok (.func fn first cap) w := fun _ _ _ _ => rfl
  have hb : Below w.heap.size w (w.alloc (.cells #[.pointer none] 26)) := (Below.refl _ _).alloc (Nat.le_refl _) _
  have HB := Lib.hid hb
  clear hb
  go_enter Tryd.func24, Tryd.ntmps24
  go_wp2_with fail
  refine (who_nil _ _).mono ?_
  rintro e w1 ⟨rfl, rfl⟩
  go_wp2_with fail
  go_ret
  exact ⟨rfl, HB.out⟩
set_option maxRecDepth 100000 in
theorem idle_any (h : MastIn w P p m lv nvs vv M) (hl : M.lives.length ≤ 16) :
    Calls Tryd.prog 24 #[.pointer (some ⟨P, 0, none⟩)] w (IntsPost w (numsI (whoL M.lives (idleF M.b)))) := by
  have hmf : ∀ (fn : Fn) (first cap : Array Value) (w : World), (Instr.makeFunc fn first cap).run Tryd.prog w = .ok (.func fn first cap) w := fun _ _ _ _ => rfl
  have hb : Below w.heap.size w (w.alloc (.cells #[.pointer (some ⟨P, 0, none⟩)] 26)) := (Below.refl _ _).alloc (Nat.le_refl _) _
  have hbx : Boxed w.heap.size P p m lv vv nvs M (w.alloc (.cells #[.pointer (some ⟨P, 0, none⟩)] 26)) := ⟨by simp, h.below hb⟩
  have HW := Lib.hid (who_any (h.below hb) hl (idleFn hl w.heap.size) (fun V hV => hbx.below hV))
  have HB := Lib.hid hb
  have hs : w.heap.size ≤ (w.alloc (.cells #[.pointer (some ⟨P, 0, none⟩)] 26)).heap.size := hb.size
  clear h hb hbx
  go_enter Tryd.func24, Tryd.ntmps24
  go_wp2_with fail
  refine HW.out.mono ?_
  rintro e w1 ⟨q, cap, rfl, hi, hb, hn⟩
  have HI := Lib.hid hi; have HB1 := Lib.hid hb; have HN := Lib.hid hn
  clear hi hb hn HW
  go_wp2_with fail
  go_ret
  exact ⟨q, cap, rfl, HI.out, HB.out.trans (HB1.out.mono hs), fun p hp => Nat.le_trans hs (HN.out p hp)⟩
set_option maxRecDepth 100000 in
set_option maxHeartbeats 2000000 in
theorem next_nil (w : World) : Calls Tryd.prog 22 #[.pointer none] w fun e w' => e = .returned (pickOut (⟨0, 0, 0⟩, false)) ∧ Below w.heap.size w w' := by
  have hb : Below w.heap.size w ((w.alloc (.cells #[.pointer none] 26)).alloc (.cells #[.int .u8 0, .int .i64 0, .int .i64 0] 46)) := ((Below.refl _ _).alloc (Nat.le_refl _) _).alloc (by simp) _
  have hpk : RowAt ((w.alloc (.cells #[.pointer none] 26)).alloc (.cells #[.int .u8 0, .int .i64 0, .int .i64 0] 46)) (w.heap.size + 1) 46 [.int .u8 0, .int .i64 0, .int .i64 0] := by
    have := RowAt.made (w.alloc (.cells #[.pointer none] 26)) #[.int .u8 0, .int .i64 0, .int .i64 0] 46
    rw [World.size_alloc] at this
    exact this
  have hb0 : ((w.alloc (.cells #[.pointer none] 26)).alloc (.cells #[.int .u8 0, .int .i64 0, .int .i64 0] 46)).cell? ⟨w.heap.size, 0, none⟩ = some (.pointer none) := by simp
  have HB := Lib.hid hb; have HE := Lib.hid hpk
  clear hb hpk
  have HS := Lib.hid (⟨hb0, HE.out.free 0, HE.out.free 1, HE.out.free 2, HE.out.cell 0 (by simp), HE.out.cell 1 (by simp), HE.out.cell 2 (by simp)⟩ : _ ∧ _ ∧ _ ∧ _ ∧ _ ∧ _ ∧ _)
  clear hb0
  go_enter Tryd.func22, Tryd.ntmps22
  go_wp2_with fail
  (try simp only [Exit.inBlock, Exit.then])
  refine bodyPost_ret (pick_out rfl _ _ (w.heap.size + 1) _ _ _ rfl HE.out) rfl ?_
  exact ⟨rfl, HB.out⟩
set_option maxRecDepth 100000 in
set_option maxHeartbeats 4000000 in
theorem next_any (h : MastIn w P p m lv nvs vv M) (hF : M.b.Fine k) (hk : k ≤ 1000000) (hl : M.lives.length ≤ 16) :
    Calls Tryd.prog 22 #[.pointer (some ⟨P, 0, none⟩)] w fun e w' => e = .returned (pickOut M.next) ∧ Below w.heap.size w w' := by
  have hmf : ∀ (fn : Fn) (first cap : Array Value) (w : World), (Instr.makeFunc fn first cap).run Tryd.prog w = .ok (.func fn first cap) w := fun _ _ _ _ => rfl
  have hb : Below w.heap.size w ((w.alloc (.cells #[.pointer (some ⟨P, 0, none⟩)] 26)).alloc (.cells #[.int .u8 0, .int .i64 0, .int .i64 0] 46)) := ((Below.refl _ _).alloc (Nat.le_refl _) _).alloc (by simp) _
  have hpk : RowAt ((w.alloc (.cells #[.pointer (some ⟨P, 0, none⟩)] 26)).alloc (.cells #[.int .u8 0, .int .i64 0, .int .i64 0] 46)) (w.heap.size + 1) 46 [.int .u8 0, .int .i64 0, .int .i64 0] := by
    have := RowAt.made (w.alloc (.cells #[.pointer (some ⟨P, 0, none⟩)] 26)) #[.int .u8 0, .int .i64 0, .int .i64 0] 46
    rw [World.size_alloc] at this
    exact this
  have hbx : Boxed w.heap.size P p m lv vv nvs M ((w.alloc (.cells #[.pointer (some ⟨P, 0, none⟩)] 26)).alloc (.cells #[.int .u8 0, .int .i64 0, .int .i64 0] 46)) := ⟨by simp, h.below hb⟩
  have HW := Lib.hid (who_any hbx.2 hl (nextFn hl w.heap.size) (fun V hV => hbx.below hV))
  have HB := Lib.hid hb; have HX := Lib.hid hbx; have HE := Lib.hid hpk; have HF := Lib.hid hF
  have hb0 := hbx.1
  clear h hb hbx hpk hF
  go_enter Tryd.func22, Tryd.ntmps22
  go_wp2_with fail
  generalize hsb : w.heap.size = sb at *
  generalize (w.alloc (.cells #[.pointer (some ⟨P, 0, none⟩)] 26)).alloc (.cells #[.int .u8 0, .int .i64 0, .int .i64 0] 46) = wi at *
  refine HW.out.mono ?_
  rintro e w2 ⟨q, cap, rfl, hi, hb2, hn⟩
  clear hn HW hb0
  have hs := HB.out.size
  rw [hsb] at hs
  have HB2 := Lib.hid (HB.out.trans (hb2.mono hs))
  have HX2 := Lib.hid (HX.out.below hb2); have HE2 := Lib.hid (HE.out.below hb2)
  have HI := Lib.hid hi
  clear hi hb2 HX HE hs
  have HNX := Lib.hid (show M.next = M.next from rfl)
  cases hbusy : whoL M.lives (busyF M.b) with
  | cons i rest =>
    rw [hbusy] at HI
    obtain ⟨qq, hix, hc⟩ := HI.out.index cap 0 (by simp [numsI])
    replace hix : ∀ W, (Instr.indexAt 31 (.slice q (numsI (i :: rest)).length cap) (.int .i64 0)).run Tryd.prog W = .ok (.pointer (some qq)) W := hix
    replace hc : w2.cell? qq = some (.int .i64 (i : Int)) := hc
    have hgt : 0 < (numsI (i :: rest)).length := by simp [numsI]
    have HN2 := Lib.hid (show M.next = (⟨2, i, 0⟩, true) from by unfold Sch.Master.next; rw [hbusy])
    clear HNX hbusy HI
    generalize (numsI (i :: rest)).length = nb at *
    have k0 := HE2.out.free 0; have k1 := HE2.out.free 1; have k2 := HE2.out.free 2
    have c0 := HE2.out.cell 0 (by simp); have c1 := HE2.out.cell 1 (by simp); have c2 := HE2.out.cell 2 (by simp)
    go_wp2_with fail
    have HE5 := Lib.hid (((HE2.out.set 0 (.int .u8 2)).set 1 (.int .i64 (i : Int))).set 2 (.int .i64 0))
    (try simp only [Exit.inBlock, Exit.then])
    refine bodyPost_ret (pick_out rfl _ _ (sb + 1) _ _ _ rfl HE5.out) rfl ?_
    rw [hsb]
    exact ⟨by rw [HN2.out]; rfl, ((HB2.out.setCell (p := ⟨sb + 1, 0, none⟩) (Nat.le_succ sb) _).setCell (p := ⟨sb + 1, 1, none⟩) (Nat.le_succ sb) _).setCell (p := ⟨sb + 1, 2, none⟩) (Nat.le_succ sb) _⟩
  | nil =>
    clear HNX
    have HBU := Lib.hid hbusy
    rw [hbusy] at HI
    clear hbusy HI
    have hb0 := HX2.out.1
    have m0 := HX2.out.2.cells.1
    have HO := Lib.hid (over_any HX2.out.2.board)
    have HFL := Lib.hid (show M.b.failed.isSome = M.b.failed.isSome from rfl)
    go_wp2_with fail
    refine HO.out.mono ?_
    rintro e w3 ⟨rfl, rfl⟩
    go_wp2_with fail
    refine (malive_any HX2.out.2 hl).mono ?_
    rintro e w3 ⟨q3, cap3, rfl, hi, hb3, hn⟩
    clear hn
    have hs3 := HB2.out.size
    rw [hsb] at hs3
    have HB3 := Lib.hid (HB2.out.trans (hb3.mono hs3))
    have HX3 := Lib.hid (HX2.out.below hb3); have HE3 := Lib.hid (HE2.out.below hb3)
    have HI := Lib.hid hi
    clear hi hb3 HX2 HE2 hs3 m0 hb0 HO
    cases hal : whoL M.lives (fun _ => true) with
    | nil =>
      have HN2 := Lib.hid (show M.next = (⟨0, 0, 0⟩, false) from by unfold Sch.Master.next; rw [HBU.out, hal])
      rw [show (numsI ([] : List Nat)).length = 0 from rfl]
      clear hal HI
      have k0 := HE3.out.free 0; have k1 := HE3.out.free 1; have k2 := HE3.out.free 2
      have c0 := HE3.out.cell 0 (by simp); have c1 := HE3.out.cell 1 (by simp); have c2 := HE3.out.cell 2 (by simp)
      go_wp2_with fail
      have HE5 := Lib.hid (((HE3.out.set 0 (.int .u8 0)).set 1 (.int .i64 0)).set 2 (.int .i64 0))
      (try simp only [Exit.inBlock, Exit.then])
      refine bodyPost_ret (pick_out rfl _ _ (sb + 1) _ _ _ rfl HE5.out) rfl ?_
      rw [hsb]
      exact ⟨by rw [HN2.out]; rfl, ((HB3.out.setCell (p := ⟨sb + 1, 0, none⟩) (Nat.le_succ sb) _).setCell (p := ⟨sb + 1, 1, none⟩) (Nat.le_succ sb) _).setCell (p := ⟨sb + 1, 2, none⟩) (Nat.le_succ sb) _⟩
    | cons j rest =>
      rw [hal] at HI
      obtain ⟨qq, hix, hc⟩ := HI.out.index cap3 0 (by simp [numsI])
      replace hix : ∀ W, (Instr.indexAt 31 (.slice q3 (numsI (j :: rest)).length cap3) (.int .i64 0)).run Tryd.prog W = .ok (.pointer (some qq)) W := hix
      have HC := Lib.hid (show w3.cell? qq = some (.int .i64 (j : Int)) from hc)
      have hgt : 0 < (numsI (j :: rest)).length := by simp [numsI]
      have HN2 := Lib.hid (show M.next = if decide (0 < M.b.ready.length) && !M.b.failed.isSome then (⟨0, j, 0⟩, true) else (⟨0, 0, 0⟩, false) from by unfold Sch.Master.next; rw [HBU.out, hal])
      clear hal HI hc
      generalize (numsI (j :: rest)).length = nb at *
      have hb0 := HX3.out.1
      have m0 := HX3.out.2.cells.1
      have HR := Lib.hid (ready_any HX3.out.2.board HF.out hk)
      go_wp2_with fail
      refine HR.out.mono ?_
      rintro e w4 ⟨q4, cap4, rfl, _, hb4, _⟩
      have hs4 := HB3.out.size
      rw [hsb] at hs4
      have HB4 := Lib.hid (HB3.out.trans (hb4.mono hs4))
      have HE4 := Lib.hid (HE3.out.below hb4)
      have hc : w4.cell? qq = some (.int .i64 (j : Int)) := (hb4.cell (block_lt_of_cell HC.out)).trans HC.out
      clear hs4 hb4 HE3 HX3 HC HR hb0 m0
      have k0 := HE4.out.free 0; have k1 := HE4.out.free 1; have k2 := HE4.out.free 2
      have c0 := HE4.out.cell 0 (by simp); have c1 := HE4.out.cell 1 (by simp); have c2 := HE4.out.cell 2 (by simp)
      generalize M.b.ready.length = nr at *
      generalize M.b.failed.isSome = fs at *
      cases nr with
      | zero =>
        have HN3 := Lib.hid (show M.next = (⟨0, 0, 0⟩, false) from HN2.out)
        clear HN2
        go_wp2_with fail
        have HE5 := Lib.hid (((HE4.out.set 0 (.int .u8 0)).set 1 (.int .i64 0)).set 2 (.int .i64 0))
        (try simp only [Exit.inBlock, Exit.then])
        refine bodyPost_ret (pick_out rfl _ _ (sb + 1) _ _ _ rfl HE5.out) rfl ?_
        rw [hsb]
        exact ⟨by rw [HN3.out]; rfl, ((HB4.out.setCell (p := ⟨sb + 1, 0, none⟩) (Nat.le_succ sb) _).setCell (p := ⟨sb + 1, 1, none⟩) (Nat.le_succ sb) _).setCell (p := ⟨sb + 1, 2, none⟩) (Nat.le_succ sb) _⟩
      | succ nr =>
        have hnr : 0 < nr + 1 := Nat.succ_pos _
        cases fs with
        | true =>
          have HN3 := Lib.hid (show M.next = (⟨0, 0, 0⟩, false) from by rw [HN2.out]; simp)
          clear HN2
          go_wp2_with fail
          have HE5 := Lib.hid (((HE4.out.set 0 (.int .u8 0)).set 1 (.int .i64 0)).set 2 (.int .i64 0))
          (try simp only [Exit.inBlock, Exit.then])
          refine bodyPost_ret (pick_out rfl _ _ (sb + 1) _ _ _ rfl HE5.out) rfl ?_
          rw [hsb]
          exact ⟨by rw [HN3.out]; rfl, ((HB4.out.setCell (p := ⟨sb + 1, 0, none⟩) (Nat.le_succ sb) _).setCell (p := ⟨sb + 1, 1, none⟩) (Nat.le_succ sb) _).setCell (p := ⟨sb + 1, 2, none⟩) (Nat.le_succ sb) _⟩
        | false =>
          have HN3 := Lib.hid (show M.next = (⟨0, j, 0⟩, true) from by rw [HN2.out]; simp)
          clear HN2
          go_wp2_with fail
          have HE5 := Lib.hid (((HE4.out.set 0 (.int .u8 0)).set 1 (.int .i64 (j : Int))).set 2 (.int .i64 0))
          (try simp only [Exit.inBlock, Exit.then])
          refine bodyPost_ret (pick_out rfl _ _ (sb + 1) _ _ _ rfl HE5.out) rfl ?_
          rw [hsb]
          exact ⟨by rw [HN3.out]; rfl, ((HB4.out.setCell (p := ⟨sb + 1, 0, none⟩) (Nat.le_succ sb) _).setCell (p := ⟨sb + 1, 1, none⟩) (Nat.le_succ sb) _).setCell (p := ⟨sb + 1, 2, none⟩) (Nat.le_succ sb) _⟩
end
end Go.Proofs.YtgmhglcdifhimaaDoor
