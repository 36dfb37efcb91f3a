/- maslin/task: State, Start, end, Commit, Fail, walked. -/
import Derived.Test.YtgmhglcdifhimaaDoorTaskState
namespace Go.Proofs.YtgmhglcdifhimaaDoor
open Go.RowKit Go.Maps Go.Sort
open Tsk

section
variable {w w' : World} {p m : Nat} {lv : Value} {nvs : List Value} {b : Board} {k : Nat}
theorem BoardIn.mapTurned (h : BoardIn w p m lv nvs b) (hu : Upd (fun k => k = m) w w') (tr : List (Int × Nat)) (hm : IntMap Tryd.prog 3 w' m (tr.map fun q => (q.1, .int .i64 (q.2 : Int)))) : BoardIn w' p m lv nvs { b with tries := tr } :=
  ⟨(hu.block p (blk_lt h.struct) (fun e => h.at_.notCells (t := 83) ⟨_, _, e ▸ h.struct⟩)).trans h.struct, hm, ownsRow_upd h.row hu (fun _ hg e => h.at_.notCells (e ▸ ownsRow_blk h.row hg)), h.nlen, fun i hi hi' => (h.needs i hi hi').upd hu (fun _ hb e => h.at_.notCells (e ▸ hb))⟩
theorem kvDel_tries (l : List (Int × Nat)) (x : Int) : kvDel x (l.map fun q => (q.1, Value.int .i64 (q.2 : Int))) = (l.filter (fun q => !(q.1 == x))).map fun q => (q.1, Value.int .i64 (q.2 : Int)) := by
  unfold kvDel
  rw [List.filter_map]
  rfl
theorem Board.no_try {x : Int} (hx : b.at_ x = none) : b.tries.filter (fun q => !(q.1 == x)) = b.tries := List.filter_eq_self.2 fun q hq => by
  unfold Board.at_ at hx
  rw [Option.map_eq_none_iff, List.find?_eq_none] at hx
  have := hx q hq
  simpa using this
theorem BoardIn.started (h : BoardIn w p m lv nvs b) (x : Int) (hw : (Lit.int .i64 x).wf = true) (hx : b.at_ x = none) (hlen : b.tries.length ≤ 1000000) (t : Nat) :
    ∃ w', (Instr.mapUpdate 81 (.map (some m)) (.int .i64 x) (.int .i64 (t : Int))).run Tryd.prog w = .ok () w' ∧ BoardIn w' p m lv nvs { b with tries := (x, t) :: b.tries } ∧ Upd (fun k => k = m) w w' := by
  obtain ⟨w', hrun, hm, hg⟩ := h.at_.update Tryd.underlying3 Tryd.underlying81 x hw (.int .i64 (t : Int)) (by rw [List.length_map]; unfold maxLen; omega)
  have hu : Upd (fun k => k = m) w w' := Upd.of_grownBy hg (fun k e => (Option.some.inj e).symm)
  refine ⟨w', hrun, h.mapTurned hu _ ?_, hu⟩
  unfold kvPut at hm
  rw [kvDel_tries, Board.no_try hx] at hm
  exact hm
theorem BoardIn.dropped (h : BoardIn w p m lv nvs b) (x : Int) (hw : (Lit.int .i64 x).wf = true) (ty : TypeId) :
    ∃ w', (Builtin.delete_ #[81, 3] ty #[.map (some m), .int .i64 x]).run Tryd.prog w = .ok (.tuple #[]) w' ∧ BoardIn w' p m lv nvs (b.drop x) ∧ Upd (fun k => k = m) w w' := by
  obtain ⟨w', hrun, hm, hg⟩ := h.at_.delete Tryd.underlying3 Tryd.underlying81 x hw ty
  have hu : Upd (fun k => k = m) w w' := Upd.of_grownBy hg (fun k e => (Option.some.inj e).symm)
  rw [kvDel_tries] at hm
  exact ⟨w', hrun, h.mapTurned hu _ hm, hu⟩
theorem BoardIn.turned {g n cap t : Nat} (h : BoardIn w p m (.slice (some ⟨g, 0, none⟩) n cap) nvs b) (hlen : n = b.l.length) (ht : t < b.l.length) (j : Nat) (hj : j < 4) (u : Value) (y : Task)
    (hy : oneCells (nvs[t]'(by have := h.nlen; omega)) y = (oneCells (nvs[t]'(by have := h.nlen; omega)) b.l[t]).set j u) (hn : y.needs = b.l[t].needs) :
    BoardIn (w.setCell ⟨g, t * 4 + j, none⟩ u) p m (.slice (some ⟨g, 0, none⟩) n cap) nvs { b with l := b.l.set t y } ∧ Upd (fun k => k = g) w (w.setCell ⟨g, t * 4 + j, none⟩ u) := by
  subst hlen
  have hu : Upd (fun k => k = g) w (w.setCell ⟨g, t * 4 + j, none⟩ u) := (Upd.refl (fun k => k = g) w).setCell (p := ⟨g, t * 4 + j, none⟩) (.inl rfl) _
  have hbg : BlkOf w g 87 := ownsRow_blk h.row rfl
  refine ⟨⟨(hu.block p (blk_lt h.struct) (fun e => BlkOf.ne (e ▸ hbg : BlkOf w p 87) ⟨_, _, h.struct⟩ (by decide) rfl)).trans h.struct, h.at_.upd hu (fun e => h.at_.notCells (e ▸ hbg)), ?_, by rw [List.length_set]; exact h.nlen, fun i hi hi' => ?_⟩, hu⟩
  · have := ownsRow_turned h.row (t * 4 + j) u
    rw [allCells_set nvs b.l h.nlen t ht j hj u y hy] at this
    simp only [List.length_set]
    exact this
  · have hi2 : i < b.l.length := by rw [List.length_set] at hi; exact hi
    have := (h.needs i hi2 hi').upd hu (fun k hb e => BlkOf.ne (e ▸ hbg : BlkOf w k 87) hb (by decide) rfl)
    by_cases e : t = i
    · subst e
      simp only [List.getElem_set_self]
      rw [hn]
      exact this
    · simp only [List.getElem_set_ne e]
      exact this
theorem BoardIn.setFailed (h : BoardIn w p m lv nvs b) (t : Nat) : BoardIn (w.setCell ⟨p, 3, none⟩ (.int .i64 (t : Int))) p m lv nvs { b with failed := some t } ∧ Upd (fun k => k = p) w (w.setCell ⟨p, 3, none⟩ (.int .i64 (t : Int))) := by
  have hu : Upd (fun k => k = p) w (w.setCell ⟨p, 3, none⟩ (.int .i64 (t : Int))) := (Upd.refl (fun k => k = p) w).setCell (p := ⟨p, 3, none⟩) (.inl rfl) _
  have hbp : BlkOf w p 83 := ⟨_, _, h.struct⟩
  refine ⟨⟨?_, h.at_.upd hu (fun e => h.at_.notCells (e ▸ hbp)), ownsRow_upd h.row hu (fun g hg e => BlkOf.ne (e ▸ hbp : BlkOf w g 83) (ownsRow_blk h.row hg) (by decide) rfl), h.nlen, fun i hi hi' => (h.needs i hi hi').upd hu (fun k hb e => BlkOf.ne (e ▸ hbp : BlkOf w k 83) hb (by decide) rfl)⟩, hu⟩
  have := heap_setCell_same w p 3 _ _ (.int .i64 (t : Int)) h.struct
  rw [this]
  rfl

set_option maxRecDepth 100000 in
theorem stateX_in (h : BoardIn w p m lv nvs b) (hF : b.Fine k) (hk : k ≤ 1000000) (t : Nat) (ht : t < b.l.length) :
    Calls Tryd.prog 53 #[.pointer (some ⟨p, 0, none⟩), .int .i64 (t : Int)] w fun e w' => e = .returned (.int .u8 (b.state t)) ∧ Below w.heap.size w w' :=
  state_in h hF.needs (Nat.le_trans hF.count hk) t ht (hF.slim _ (List.getElem_mem ht))
set_option maxRecDepth 100000 in
theorem stateP_in (h : BoardIn w p m lv nvs b) (hF : b.Fine k) (hk : k ≤ 1000000) (t : Nat) (ht : t < b.l.length) :
    Calls Tryd.prog 40 #[.pointer (some ⟨p, 0, none⟩), .int .i64 (t : Int)] w fun e w' => e = .returned (.tuple #[.int .u8 (b.state t), .int .i64 0]) ∧ Below w.heap.size w w' := by
  have HH := Lib.hid (has_yes h t ht)
  have HS := Lib.hid (stateX_in h hF hk t ht)
  clear h hF
  go_enter Tryd.func40, Tryd.ntmps40
  go_wp2_with fail
  refine HH.out.mono ?_
  rintro e w1 ⟨rfl, rfl⟩
  go_wp2_with fail
  refine HS.out.mono ?_
  rintro e w1 ⟨rfl, hb⟩
  have HB := Lib.hid hb
  clear hb
  go_wp2_with fail
  go_ret2
  exact ⟨rfl, HB.out⟩
set_option maxRecDepth 100000 in
theorem stateP_no (h : BoardIn w p m lv nvs b) (t : Int) (ht : t < 0 ∨ (b.l.length : Int) ≤ t) :
    Calls Tryd.prog 40 #[.pointer (some ⟨p, 0, none⟩), .int .i64 t] w fun e w' => e = .returned (.tuple #[.int .u8 0, .int .i64 2]) ∧ w = w' := by
  have HH := Lib.hid (has_no h t ht)
  clear h ht
  go_enter Tryd.func40, Tryd.ntmps40
  go_wp2_with fail
  refine HH.out.mono ?_
  rintro e w1 ⟨rfl, rfl⟩
  go_wp2_with fail
  go_ret2
  exact ⟨rfl, rfl⟩
set_option maxRecDepth 100000 in
theorem stateP_nil (t : Int) (w : World) : Calls Tryd.prog 40 #[.pointer none, .int .i64 t] w fun e w' => e = .returned (.tuple #[.int .u8 0, .int .i64 1]) ∧ w = w' := by
  go_enter Tryd.func40, Tryd.ntmps40
  go_wp2_with fail
  go_ret2
  exact ⟨rfl, rfl⟩
/-- What becomes of a board. -/
structure BoardTo (w w' : World) (p m : Nat) (lv : Value) (nvs : List Value) (b' : Board) : Prop where
  board : BoardIn w' p m lv nvs b'
  upd : Upd (boardBlocks p m lv) w w'
theorem BoardTo.same (h : BoardIn w p m lv nvs b) : BoardTo w w p m lv nvs b := ⟨h, Upd.refl _ _⟩
theorem BoardTo.below (h : BoardIn w p m lv nvs b) (hb : Below w.heap.size w w') : BoardTo w w' p m lv nvs b := ⟨h.below hb, Upd.of_below hb⟩
set_option maxRecDepth 100000 in
theorem start_nil (t x : Int) (w : World) : Calls Tryd.prog 127 #[.pointer none, .int .i64 t, .int .i64 x] w fun e w' => e = .returned (.int .i64 1) ∧ w = w' := by
  go_enter Tryd.func127, Tryd.ntmps127
  go_wp2_with fail
  go_ret
  exact ⟨rfl, rfl⟩
set_option maxRecDepth 100000 in
set_option maxHeartbeats 2000000 in
theorem start_any (h : BoardIn w p m lv nvs b) (hF : b.Fine k) (hk : k ≤ 1000000) (t x : Int) (hx : (Lit.int .i64 x).wf = true) :
    Calls Tryd.prog 127 #[.pointer (some ⟨p, 0, none⟩), .int .i64 t, .int .i64 x] w fun e w' => e = .returned (.int .i64 (b.start t x).2) ∧ BoardTo w w' p m lv nvs (b.start t x).1 := by
  have HB := Lib.hid h
  by_cases ha : t < 0 ∨ (b.l.length : Int) ≤ t ∨ x < 0
  · have e1 : b.start t x = (b, 2) := by unfold Board.start; rw [if_pos ha]
    rw [e1]
    by_cases h1 : t < 0 ∨ (b.l.length : Int) ≤ t
    · have HH := Lib.hid (has_no h t h1)
      clear h hF ha h1 e1
      go_enter Tryd.func127, Tryd.ntmps127
      go_wp2_with fail
      refine HH.out.mono ?_
      rintro e w1 ⟨rfl, rfl⟩
      go_wp2_with fail
      go_ret
      exact ⟨rfl, BoardTo.same HB.out⟩
    · obtain ⟨t, rfl⟩ : ∃ n : Nat, t = (n : Int) := ⟨t.toNat, by omega⟩
      have HH := Lib.hid (has_yes h t (by omega))
      have hx0 : x < 0 := by omega
      clear h hF ha h1 e1
      go_enter Tryd.func127, Tryd.ntmps127
      go_wp2_with fail
      refine HH.out.mono ?_
      rintro e w1 ⟨rfl, rfl⟩
      go_wp2_with fail
      go_ret
      exact ⟨rfl, BoardTo.same HB.out⟩
  · obtain ⟨t, rfl⟩ : ∃ n : Nat, t = (n : Int) := ⟨t.toNat, by omega⟩
    have ht : t < b.l.length := by omega
    have hx0 : 0 ≤ x := by omega
    have HH := Lib.hid (has_yes h t ht)
    have HS := Lib.hid (stateX_in h hF hk t ht)
    have hlook := h.look x hx w rfl
    obtain ⟨_, d1, _, d3, _⟩ := h.cells
    have HST := Lib.hid (show b.start t x = _ from by unfold Board.start; rw [if_neg ha, Int.toNat_natCast])
    have HTR := Lib.hid (Nat.le_trans hF.count hk)
    have HLT := Lib.hid ht
    clear ha h hF ht
    cases hfa : b.failed with
    | some f =>
      rw [hfa] at d3
      have HFA := Lib.hid hfa
      have hge : decide ((0 : Int) ≤ (f : Int)) = true := by simp
      clear hfa hlook
      go_enter Tryd.func127, Tryd.ntmps127
      go_wp2_with fail
      refine HH.out.mono ?_
      rintro e w1 ⟨rfl, rfl⟩
      go_wp2_with fail
      go_ret
      rw [HST.out, HFA.out]
      exact ⟨rfl, BoardTo.same HB.out⟩
    | none =>
      rw [hfa] at d3
      have HFA := Lib.hid hfa
      clear hfa
      have d3 : w.cell? ⟨p, 3, none⟩ = some (.int .i64 (-1)) := d3
      cases hat : b.at_ x with
      | some u =>
        rw [hat] at hlook
        have HAT := Lib.hid hat
        clear hat
        simp only [Option.getD_some, Option.isSome_some] at hlook
        go_enter Tryd.func127, Tryd.ntmps127
        go_wp2_with fail
        refine HH.out.mono ?_
        rintro e w1 ⟨rfl, rfl⟩
        go_wp2_with fail
        go_ret
        rw [HST.out, HFA.out, HAT.out]
        exact ⟨rfl, BoardTo.same HB.out⟩
      | none =>
        rw [hat] at hlook
        have HAT := Lib.hid hat
        clear hat
        simp only [Option.getD_none, Option.isSome_none] at hlook
        go_enter Tryd.func127, Tryd.ntmps127
        go_wp2_with fail
        refine HH.out.mono ?_
        rintro e w1 ⟨rfl, rfl⟩
        go_wp2_with fail
        refine HS.out.mono ?_
        rintro e w1 ⟨rfl, hb⟩
        have HBE := Lib.hid hb
        have d1' := (HB.out.below hb).cells.2.1
        obtain ⟨w2, hrun, hB2, hU2⟩ := (HB.out.below hb).started x hx HAT.out HTR.out t
        have HB2 := Lib.hid hB2; have HU2 := Lib.hid hU2
        clear hb hB2 hU2 d1 d3 hlook
        have hst2 := HST.out
        rw [HFA.out, HAT.out] at hst2
        simp only [Option.isSome_none, Bool.false_eq_true, if_false] at hst2
        have HST2 := Lib.hid hst2
        clear hst2 HST
        by_cases hs : b.state t = 1 ∨ b.state t = 2
        · rw [if_pos hs] at HST2
          generalize b.state t = s at *
          rcases hs with rfl | rfl
          all_goals
            go_wp2_with fail
            go_ret
            rw [HST2.out]
            exact ⟨rfl, by have := HB2.out; rw [HFA.out] at this; exact this, (Upd.of_below HBE.out).trans HU2.out (fun i e => .inl (by rw [e]; exact .inr (.inl rfl)))⟩
        · have hn1 : (b.state t != 1) = true := by simpa using fun e => hs (.inl e)
          have hn2 : (b.state t != 2) = true := by simpa using fun e => hs (.inr e)
          have hn3 : (b.state t == 1) = false := by simpa using fun e => hs (.inl e)
          have hn4 : (b.state t == 2) = false := by simpa using fun e => hs (.inr e)
          rw [if_neg hs] at HST2
          generalize b.state t = s at *
          clear hs
          go_wp2_with fail
          go_ret
          rw [HST2.out]
          exact ⟨rfl, BoardTo.below HB.out HBE.out⟩
set_option maxRecDepth 100000 in
theorem end_no (h : BoardIn w p m lv nvs b) (x : Int) (hx : (Lit.int .i64 x).wf = true) (ha : b.at_ x = none) :
    Calls Tryd.prog 128 #[.pointer (some ⟨p, 0, none⟩), .int .i64 x] w fun e w' => e = .returned (.tuple #[.pointer none, .int .i64 3]) ∧ w = w' := by
  have hlook := h.look x hx w rfl
  obtain ⟨_, d1, _, _, _⟩ := h.cells
  rw [ha] at hlook
  simp only [Option.getD_none, Option.isSome_none] at hlook
  clear h ha
  go_enter Tryd.func128, Tryd.ntmps128
  go_wp2_with fail
  go_ret2
  exact ⟨rfl, rfl⟩
set_option maxRecDepth 100000 in
theorem end_nil (x : Int) (w : World) : Calls Tryd.prog 128 #[.pointer none, .int .i64 x] w fun e w' => e = .returned (.tuple #[.pointer none, .int .i64 1]) ∧ w = w' := by
  go_enter Tryd.func128, Tryd.ntmps128
  go_wp2_with fail
  go_ret2
  exact ⟨rfl, rfl⟩
set_option maxRecDepth 100000 in
theorem end_yes {g cap t : Nat} (h : BoardIn w p m (.slice (some ⟨g, 0, none⟩) b.l.length cap) nvs b) (x : Int) (hx : (Lit.int .i64 x).wf = true) (ha : b.at_ x = some t) (ht : t < b.l.length) :
    Calls Tryd.prog 128 #[.pointer (some ⟨p, 0, none⟩), .int .i64 x] w fun e w' => e = .returned (.tuple #[.pointer (some ⟨g, t * 4, none⟩), .int .i64 0]) ∧ BoardIn w' p m (.slice (some ⟨g, 0, none⟩) b.l.length cap) nvs (b.drop x) ∧ Upd (fun k => k = m) w w' := by
  have hlook := h.look x hx w rfl
  obtain ⟨d0, d1, _, _, _⟩ := h.cells
  rw [ha] at hlook
  simp only [Option.getD_some, Option.isSome_some] at hlook
  obtain ⟨w2, hrun, hB2, hU2⟩ := h.dropped x hx 0
  obtain ⟨k0, _, _, _, _⟩ := hB2.cells
  have hix := fun W => run_index_slice Tryd.prog 80 87 Tryd.underlying80 4 (by kernel_rfl) ⟨g, 0, none⟩ b.l.length cap t ht W
  simp only [add_plain] at hix
  have HB2 := Lib.hid hB2; have HU2 := Lib.hid hU2
  clear h ha hB2 hU2
  go_enter Tryd.func128, Tryd.ntmps128
  go_wp2_with fail
  go_ret2
  exact ⟨rfl, HB2.out, HU2.out⟩
set_option maxRecDepth 100000 in
theorem commit_nil (x : Int) (v : List UInt8) (w : World) : Calls Tryd.prog 124 #[.pointer none, .int .i64 x, .string (bs v)] w fun e w' => e = .returned (.tuple #[.bool false, .int .i64 1]) ∧ w = w' := by
  go_enter Tryd.func124, Tryd.ntmps124
  go_wp2_with fail
  refine (end_nil x _).mono ?_
  rintro e w1 ⟨rfl, rfl⟩
  go_wp2_with fail
  go_ret2
  exact ⟨rfl, rfl⟩
set_option maxRecDepth 100000 in
theorem fail_nil (x : Int) (w : World) : Calls Tryd.prog 125 #[.pointer none, .int .i64 x] w fun e w' => e = .returned (.int .i64 1) ∧ w = w' := by
  go_enter Tryd.func125, Tryd.ntmps125
  go_wp2_with fail
  refine (at_nil x _).mono ?_
  rintro e w1 ⟨rfl, rfl⟩
  go_wp2_with fail
  refine (end_nil x _).mono ?_
  rintro e w1 ⟨rfl, rfl⟩
  go_wp2_with fail
  go_ret
  exact ⟨rfl, rfl⟩
theorem task_set_set (l : List Task) (t : Nat) (x y : Task) : (l.set t x).set t y = l.set t y := List.set_set ..
theorem BoardIn.task {g cap t : Nat} (h : BoardIn w p m (.slice (some ⟨g, 0, none⟩) b.l.length cap) nvs b) (ht : t < b.l.length) {y : Task} (hy : b.l[t] = y) :
    w.cell? ⟨g, t * 4 + 1, none⟩ = some (.bool y.is) ∧ w.cell? ⟨g, t * 4 + 2, none⟩ = some (.string (bs y.value)) ∧ w.cell? ⟨g, t * 4 + 3, none⟩ = some (.int .i64 (y.fails : Int)) ∧ ∀ j, w.frozen? ⟨g, j, none⟩ = false := by
  obtain ⟨g', cap', hg', _, _, c1, c2, c3, cf⟩ := h.index t ht
  injection hg' with hg' _ _
  injection hg' with hg'
  injection hg' with hg' _ _
  subst hg'
  subst hy
  exact ⟨c1, c2, c3, cf⟩
set_option maxRecDepth 100000 in
set_option maxHeartbeats 1000000 in
theorem commit_any (h : BoardIn w p m lv nvs b) (hF : b.Fine k) (x : Int) (hx : (Lit.int .i64 x).wf = true) (v : List UInt8) :
    Calls Tryd.prog 124 #[.pointer (some ⟨p, 0, none⟩), .int .i64 x, .string (bs v)] w fun e w' => e = .returned (.tuple #[.bool (b.commit x v).2.1, .int .i64 (b.commit x v).2.2]) ∧ BoardTo w w' p m lv nvs (b.commit x v).1 := by
  cases ha : b.at_ x with
  | none =>
    have e1 : b.commit x v = (b, false, 3) := by unfold Board.commit; rw [ha]
    rw [e1]
    have HE := Lib.hid (end_no h x hx ha)
    have HB := Lib.hid h
    clear h hF ha e1
    go_enter Tryd.func124, Tryd.ntmps124
    go_wp2_with fail
    refine HE.out.mono ?_
    rintro e w1 ⟨rfl, rfl⟩
    go_wp2_with fail
    go_ret2
    exact ⟨rfl, BoardTo.same HB.out⟩
  | some t =>
    have ht := hF.at_lt ha
    obtain ⟨y, hy⟩ : ∃ y, b.l[t] = y := ⟨_, rfl⟩
    have ec : b.commit x v = if y.is then (b.drop x, false, 0) else ({ b.drop x with l := b.l.set t { y with is := true, value := v } }, true, 0) := by
      unfold Board.commit
      rw [ha, ← hy]
      simp only [List.getElem?_eq_getElem ht]
    have HEC := Lib.hid ec
    have HY := Lib.hid hy
    obtain ⟨g, cap, rfl, -⟩ := h.index t ht
    have HE := Lib.hid (end_yes h x hx ha ht)
    clear h hF ha ec hy
    go_enter Tryd.func124, Tryd.ntmps124
    go_wp2_with fail
    refine HE.out.mono ?_
    rintro e w1 ⟨rfl, hB, hU⟩
    obtain ⟨k1, k2, _, kf⟩ := hB.task (b := b.drop x) ht HY.out
    have cf1 := kf (t * 4 + 1); have cf2 := kf (t * 4 + 2)
    obtain ⟨yn, yi, yv, yf⟩ := y
    simp only at k1 k2
    have HB := Lib.hid hB; have HU := Lib.hid hU
    clear kf hB hU HE
    cases yi with
    | true =>
      go_wp2_with fail
      go_ret2
      rw [HEC.out]
      exact ⟨rfl, HB.out, HU.out.mono fun i e => .inr (.inl e)⟩
    | false =>
      obtain ⟨hT1, hU1⟩ := HB.out.turned (b := b.drop x) rfl ht 1 (by omega) (.bool true) ⟨yn, true, yv, yf⟩ (by show _ = (oneCells _ b.l[t]).set _ _; rw [HY.out]; rfl) (by show _ = b.l[t].needs; rw [HY.out])
      obtain ⟨hT2, hU2⟩ := hT1.turned (b := { b.drop x with l := b.l.set t ⟨yn, true, yv, yf⟩ }) (cap := cap) (t := t) (by simp only [List.length_set]) (by rw [List.length_set]; exact ht) 2 (by omega) (.string (bs v)) ⟨yn, true, v, yf⟩ (by simp only [List.getElem_set_self]; rfl) (by simp only [List.getElem_set_self])
      rw [task_set_set] at hT2
      have HT2 := Lib.hid hT2; have HU1 := Lib.hid hU1; have HU2 := Lib.hid hU2
      clear hT1 hT2 hU1 hU2
      go_wp2_with fail
      go_ret2
      rw [HEC.out]
      exact ⟨rfl, HT2.out, ((HU.out.mono (G := fun i => i = m ∨ i = g) (fun i e => .inl e)).trans (HU1.out.trans HU2.out (fun i e => .inl e)) (fun i e => .inl (.inr e))).mono (fun i e => by rcases e with e | e; exact .inr (.inl e); exact .inr (.inr (by rw [e]; rfl)))⟩
set_option maxRecDepth 100000 in
set_option maxHeartbeats 1000000 in
theorem fail_any (h : BoardIn w p m lv nvs b) (hF : b.Fine k) (hk : k ≤ 1000000) (x : Int) (hx : (Lit.int .i64 x).wf = true) :
    Calls Tryd.prog 125 #[.pointer (some ⟨p, 0, none⟩), .int .i64 x] w fun e w' => e = .returned (.int .i64 (b.fail x).2) ∧ BoardTo w w' p m lv nvs (b.fail x).1 := by
  have hat := at_any h x hx
  cases ha : b.at_ x with
  | none =>
    have e1 : b.fail x = (b, 3) := by unfold Board.fail; rw [ha]
    rw [e1]
    rw [ha] at hat
    simp only [Option.getD_none, Option.isSome_none] at hat
    have HA := Lib.hid hat
    have HE := Lib.hid (end_no h x hx ha)
    have HB := Lib.hid h
    clear h hF ha e1 hat
    go_enter Tryd.func125, Tryd.ntmps125
    go_wp2_with fail
    refine HA.out.mono ?_
    rintro e w1 ⟨rfl, rfl⟩
    go_wp2_with fail
    refine HE.out.mono ?_
    rintro e w1 ⟨rfl, rfl⟩
    go_wp2_with fail
    go_ret
    exact ⟨rfl, BoardTo.same HB.out⟩
  | some t =>
    rw [ha] at hat
    simp only [Option.getD_some, Option.isSome_some] at hat
    have HA := Lib.hid hat
    have ht := hF.at_lt ha
    obtain ⟨y, hy⟩ : ∃ y, b.l[t] = y := ⟨_, rfl⟩
    have ec : b.fail x = if y.is then (b.drop x, 0) else
      ({ b.drop x with l := b.l.set t { y with fails := y.fails + 1 }, failed := if b.retries < y.fails + 1 ∧ b.failed = none then some t else b.failed }, 0) := by
      unfold Board.fail
      rw [ha, ← hy]
      simp only [List.getElem?_eq_getElem ht]
    have hyf : y.fails ≤ 1000000 := Nat.le_trans (hF.fails y (hy ▸ List.getElem_mem ht)) hk
    have HEC := Lib.hid ec
    have HY := Lib.hid hy
    obtain ⟨g, cap, rfl, -⟩ := h.index t ht
    have HE := Lib.hid (end_yes h x hx ha ht)
    clear h hF ha ec hy hat
    go_enter Tryd.func125, Tryd.ntmps125
    go_wp2_with fail
    refine HA.out.mono ?_
    rintro e w1 ⟨rfl, rfl⟩
    go_wp2_with fail
    refine HE.out.mono ?_
    rintro e w1 ⟨rfl, hB, hU⟩
    obtain ⟨k1, _, k3, kf⟩ := hB.task (b := b.drop x) ht HY.out
    have cf3 := kf (t * 4 + 3)
    obtain ⟨yn, yi, yv, yf⟩ := y
    simp only at k1 k3 hyf
    have HB := Lib.hid hB; have HU := Lib.hid hU
    clear kf hB hU HE HA
    cases yi with
    | true =>
      go_wp2_with fail
      go_ret
      rw [HEC.out]
      exact ⟨rfl, HB.out, HU.out.mono fun i e => .inr (.inl e)⟩
    | false =>
      obtain ⟨hT1, hU1⟩ := HB.out.turned (b := b.drop x) rfl ht 3 (by omega) (.int .i64 ((yf + 1 : Nat) : Int)) ⟨yn, false, yv, yf + 1⟩ (by show _ = (oneCells _ b.l[t]).set _ _; rw [HY.out]; rfl) (by show _ = b.l[t].needs; rw [HY.out])
      rw [Int.natCast_add, Int.natCast_one] at hT1 hU1
      obtain ⟨_, _, e2, e3, ef⟩ := hT1.cells
      have ef3 := ef 3
      replace e2 : (w1.setCell ⟨g, t * 4 + 3, none⟩ (.int .i64 ((yf : Int) + 1))).cell? ⟨p, 2, none⟩ = some (.int .i64 (b.retries : Int)) := e2
      replace e3 : (w1.setCell ⟨g, t * 4 + 3, none⟩ (.int .i64 ((yf : Int) + 1))).cell? ⟨p, 3, none⟩ = some (.int .i64 (match b.failed with | some t => (t : Int) | none => -1)) := e3
      have HT1 := Lib.hid hT1; have HU1 := Lib.hid hU1
      have hUU : Hid (Upd (boardBlocks p m (.slice (some ⟨g, 0, none⟩) b.l.length cap)) w (w1.setCell ⟨g, t * 4 + 3, none⟩ (.int .i64 ((yf : Int) + 1)))) := Lib.hid ((HU.out.mono (fun i e => .inr (.inl e))).trans HU1.out (fun i e => .inl (.inr (.inr (by rw [e]; rfl)))))
      clear hT1 hU1 ef
      by_cases hr : b.retries < yf + 1
      · have hrd : decide ((b.retries : Int) < (yf : Int) + 1) = true := by simp; omega
        have HR := Lib.hid hr
        clear hr
        cases hfa : b.failed with
        | none =>
          rw [hfa] at e3
          have HFA := Lib.hid hfa
          clear hfa
          replace e3 : (w1.setCell ⟨g, t * 4 + 3, none⟩ (.int .i64 ((yf : Int) + 1))).cell? ⟨p, 3, none⟩ = some (.int .i64 (-1)) := e3
          go_wp2_with fail
          go_region
          go_wp2_with fail
          go_ret
          rw [HEC.out, if_neg (by decide), if_pos ⟨HR.out, HFA.out⟩]
          have hd := (Below.refl _ (w1.setCell ⟨g, t * 4 + 3, none⟩ (.int .i64 ((yf : Int) + 1)))).drew (B := (w1.setCell ⟨g, t * 4 + 3, none⟩ (.int .i64 ((yf : Int) + 1))).heap.size)
          obtain ⟨hT2, hU2⟩ := (HT1.out.below hd).setFailed t
          exact ⟨rfl, hT2, (hUU.out.trans (Upd.of_below (F := fun _ => False) hd) (fun i e => e.elim)).trans hU2 (fun i e => .inl (.inl e))⟩
        | some f =>
          rw [hfa] at e3
          have HFA := Lib.hid hfa
          clear hfa
          replace e3 : (w1.setCell ⟨g, t * 4 + 3, none⟩ (.int .i64 ((yf : Int) + 1))).cell? ⟨p, 3, none⟩ = some (.int .i64 (f : Int)) := e3
          have hf0 : decide ((f : Int) < 0) = false := by simp
          go_wp2_with fail
          go_region
          go_wp2_with fail
          go_ret
          rw [HEC.out, if_neg (by decide), if_neg (fun e => by rw [HFA.out] at e; cases e.2)]
          have hd := (Below.refl _ (w1.setCell ⟨g, t * 4 + 3, none⟩ (.int .i64 ((yf : Int) + 1)))).drew (B := (w1.setCell ⟨g, t * 4 + 3, none⟩ (.int .i64 ((yf : Int) + 1))).heap.size)
          exact ⟨rfl, HT1.out.below hd, hUU.out.trans (Upd.of_below (F := fun _ => False) hd) (fun i e => e.elim)⟩
      · have hrd : decide ((b.retries : Int) < (yf : Int) + 1) = false := by simp; omega
        have HR := Lib.hid hr
        clear hr
        go_wp2_with fail
        go_region
        go_wp2_with fail
        go_ret
        rw [HEC.out, if_neg (by decide), if_neg (fun e => HR.out e.1)]
        have hd := (Below.refl _ (w1.setCell ⟨g, t * 4 + 3, none⟩ (.int .i64 ((yf : Int) + 1)))).drew (B := (w1.setCell ⟨g, t * 4 + 3, none⟩ (.int .i64 ((yf : Int) + 1))).heap.size)
        exact ⟨rfl, HT1.out.below hd, hUU.out.trans (Upd.of_below (F := fun _ => False) hd) (fun i e => e.elim)⟩
end
end Go.Proofs.YtgmhglcdifhimaaDoor
