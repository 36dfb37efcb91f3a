/- maslin/task: what a board is asked, walked: has, At, Over, Fails, Value; and no board. -/
import Derived.Test.YtgmhglcdifhimaaDoorTaskRep
import Derived.BigQuiet
import Derived.Deep.QuietTactic
import Derived.WalkSpells
namespace Go.Proofs.YtgmhglcdifhimaaDoor
open Go.RowKit Go.Maps
open Tsk

theorem kvGet_tries (l : List (Int × Nat)) (x : Int) : kvGet (l.map fun q => (q.1, Value.int .i64 (q.2 : Int))) x = ((l.find? (fun p => p.1 == x)).map (fun q => q.2)).map (fun (t : Nat) => Value.int .i64 (t : Int)) := by
  unfold kvGet
  induction l with
  | nil => rfl
  | cons q l ih =>
    simp only [List.map_cons, List.find?_cons]
    split
    · rfl
    · exact ih
section
variable {w : World} {p m : Nat} {lv : Value} {nvs : List Value} {b : Board}
theorem BoardIn.cells (h : BoardIn w p m lv nvs b) :
    w.cell? ⟨p, 0, none⟩ = some lv ∧ w.cell? ⟨p, 1, none⟩ = some (.map (some m)) ∧ w.cell? ⟨p, 2, none⟩ = some (.int .i64 (b.retries : Int)) ∧ w.cell? ⟨p, 3, none⟩ = some (.int .i64 (match b.failed with | some t => (t : Int) | none => -1)) ∧ ∀ j, w.frozen? ⟨p, j, none⟩ = false := by
  refine ⟨?_, ?_, ?_, ?_, fun j => frozen_of_row w p j _ _ h.struct⟩ <;> rw [cell_of_row w p _ _ _ _ h.struct] <;> rfl
theorem BoardIn.slice (h : BoardIn w p m lv nvs b) : ∃ q cap, lv = .slice q b.l.length cap := by
  rcases h.row.2 with ⟨e1, e2⟩ | ⟨g, cap, cur, e1, _⟩
  · exact ⟨none, 0, by rw [e1, e2]⟩
  · exact ⟨_, cap, e1⟩
/-- A task, where it lies. -/
theorem BoardIn.index (h : BoardIn w p m lv nvs b) (t : Nat) (ht : t < b.l.length) :
    ∃ g cap, lv = .slice (some ⟨g, 0, none⟩) b.l.length cap ∧ (∀ W, (Instr.indexAt 80 lv (.int .i64 (t : Int))).run Tryd.prog W = .ok (.pointer (some ⟨g, t * 4, none⟩)) W) ∧
      w.cell? ⟨g, t * 4, none⟩ = nvs[t]? ∧ w.cell? ⟨g, t * 4 + 1, none⟩ = some (.bool b.l[t].is) ∧ w.cell? ⟨g, t * 4 + 2, none⟩ = some (.string (bs b.l[t].value)) ∧ w.cell? ⟨g, t * 4 + 3, none⟩ = some (.int .i64 (b.l[t].fails : Int)) ∧ ∀ j, w.frozen? ⟨g, j, none⟩ = false := by
  rcases h.row.2 with ⟨_, e2⟩ | ⟨g, cap, cur, e1, _, hg, _⟩
  · omega
  · subst e1
    have hc := h.row.cells (g := g) rfl
    have key : ∀ j (hj : j < 4) v, (oneCells (nvs[t]'(by have := h.nlen; omega)) b.l[t])[j]? = some v → w.cell? ⟨g, t * 4 + j, none⟩ = some v := fun j hj v hv => by
      rw [← allCells_get nvs b.l h.nlen t ht j hj] at hv
      have := hc _ _ hv
      rw [add_plain] at this
      exact this
    refine ⟨g, cap, rfl, fun W => ?_, (key 0 (by omega) _ rfl).trans (List.getElem?_eq_getElem (by have := h.nlen; omega)).symm, key 1 (by omega) _ rfl, key 2 (by omega) _ rfl, key 3 (by omega) _ rfl, fun j => frozen_of_row w g j _ _ hg⟩
    have := run_index_slice Tryd.prog 80 87 Tryd.underlying80 4 (by kernel_rfl) ⟨g, 0, none⟩ b.l.length cap t ht W
    rw [add_plain] at this
    exact this

set_option maxRecDepth 100000 in
theorem has_any (h : BoardIn w p m lv nvs b) (t : Int) : Calls Tryd.prog 38 #[.pointer (some ⟨p, 0, none⟩), .int .i64 t] w fun e w' => e = .returned (.bool (decide (0 ≤ t) && decide (t < (b.l.length : Int)))) ∧ w = w' := by
  obtain ⟨d0, _, _, _, _⟩ := h.cells
  obtain ⟨q, cap, rfl⟩ := h.slice
  clear h
  by_cases h0 : 0 ≤ t
  · go_enter Tryd.func38, Tryd.ntmps38
    go_wp2_with fail
    go_ret
    exact ⟨by simp [h0], rfl⟩
  · have e0 : decide (0 ≤ t) = false := by simpa using h0
    go_enter Tryd.func38, Tryd.ntmps38
    go_wp2_with fail
    go_ret
    exact ⟨rfl, rfl⟩
set_option maxRecDepth 100000 in
theorem has_nil (t : Int) (w : World) : Calls Tryd.prog 38 #[.pointer none, .int .i64 t] w fun e w' => e = .returned (.bool false) ∧ w = w' := by
  go_enter Tryd.func38, Tryd.ntmps38
  go_wp2_with fail
  go_ret
  exact ⟨rfl, rfl⟩
set_option maxRecDepth 100000 in
theorem over_any (h : BoardIn w p m lv nvs b) : Calls Tryd.prog 36 #[.pointer (some ⟨p, 0, none⟩)] w fun e w' => e = .returned (.tuple #[.int .i64 ((b.failed.getD 0 : Nat) : Int), .bool b.failed.isSome]) ∧ w = w' := by
  obtain ⟨_, _, _, d3, _⟩ := h.cells
  clear h
  obtain ⟨l, tr, re, fa⟩ := b
  cases fa with
  | none =>
    have d3 : w.cell? ⟨p, 3, none⟩ = some (.int .i64 (-1)) := d3
    go_enter Tryd.func36, Tryd.ntmps36
    go_wp2_with fail
    go_ret2
    exact ⟨rfl, rfl⟩
  | some t =>
    have d3 : w.cell? ⟨p, 3, none⟩ = some (.int .i64 (t : Int)) := d3
    have hlt : decide ((t : Int) < 0) = false := by simp
    go_enter Tryd.func36, Tryd.ntmps36
    go_wp2_with fail
    go_ret2
    exact ⟨rfl, rfl⟩
set_option maxRecDepth 100000 in
theorem over_nil (w : World) : Calls Tryd.prog 36 #[.pointer none] w fun e w' => e = .returned (.tuple #[.int .i64 0, .bool false]) ∧ w = w' := by
  go_enter Tryd.func36, Tryd.ntmps36
  go_wp2_with fail
  go_ret2
  exact ⟨rfl, rfl⟩
theorem BoardIn.look (h : BoardIn w p m lv nvs b) (x : Int) (hx : (Lit.int .i64 x).wf = true) (W : World) (hW : W.heap[m]? = w.heap[m]?) :
    (Instr.lookup 81 (.map (some m)) (.int .i64 x) true).run Tryd.prog W = .ok (.tuple #[.int .i64 (((b.at_ x).getD 0 : Nat) : Int), .bool (b.at_ x).isSome]) W := by
  have hk := h.at_.kept hW
  have hr := hk.lookup_ok Tryd.underlying3 Tryd.underlying81 (z := .int .i64 0) ((zero_of_info (show (Tryd.prog.info? 3).map (fun i => (i.zero, i.size)) = some (some (.int .i64 0), 1) by kernel_rfl)).1 W) x hx
  rw [hr, kvGet_tries]
  unfold Board.at_
  cases (b.tries.find? fun p => p.1 == x).map (·.2) <;> rfl
set_option maxRecDepth 100000 in
theorem at_any (h : BoardIn w p m lv nvs b) (x : Int) (hx : (Lit.int .i64 x).wf = true) : Calls Tryd.prog 13 #[.pointer (some ⟨p, 0, none⟩), .int .i64 x] w fun e w' => e = .returned (.tuple #[.int .i64 (((b.at_ x).getD 0 : Nat) : Int), .bool (b.at_ x).isSome]) ∧ w = w' := by
  obtain ⟨_, d1, _, _, _⟩ := h.cells
  have hl := h.look x hx w rfl
  generalize ((b.at_ x).getD 0 : Nat) = t, (b.at_ x).isSome = s at *
  clear h hx
  go_enter Tryd.func13, Tryd.ntmps13
  go_wp2_with fail
  go_ret2
  exact ⟨rfl, rfl⟩
set_option maxRecDepth 100000 in
theorem at_nil (x : Int) (w : World) : Calls Tryd.prog 13 #[.pointer none, .int .i64 x] w fun e w' => e = .returned (.tuple #[.int .i64 0, .bool false]) ∧ w = w' := by
  go_enter Tryd.func13, Tryd.ntmps13
  go_wp2_with fail
  go_ret2
  exact ⟨rfl, rfl⟩
set_option maxRecDepth 100000 in
theorem fails_in (h : BoardIn w p m lv nvs b) (t : Nat) (ht : t < b.l.length) : Calls Tryd.prog 15 #[.pointer (some ⟨p, 0, none⟩), .int .i64 (t : Int)] w fun e w' => e = .returned (.int .i64 (b.l[t].fails : Int)) ∧ w = w' := by
  obtain ⟨d0, _, _, _, _⟩ := h.cells
  obtain ⟨g, cap, rfl, hix, _, _, _, c3, _⟩ := h.index t ht
  have hh := has_any h (t : Int)
  have e1 : (decide ((0 : Int) ≤ (t : Int)) && decide ((t : Int) < (b.l.length : Int))) = true := by simp; omega
  rw [e1] at hh
  have HH := Lib.hid hh
  generalize b.l[t].fails = f at *
  clear h hh e1
  go_enter Tryd.func15, Tryd.ntmps15
  go_wp2_with fail
  refine HH.out.mono ?_
  rintro e w1 ⟨rfl, rfl⟩
  go_wp2_with fail
  go_ret
  exact ⟨rfl, rfl⟩
theorem has_no (h : BoardIn w p m lv nvs b) (t : Int) (ht : t < 0 ∨ (b.l.length : Int) ≤ t) : Calls Tryd.prog 38 #[.pointer (some ⟨p, 0, none⟩), .int .i64 t] w fun e w' => e = .returned (.bool false) ∧ w = w' := by
  have hh := has_any h t
  have e1 : (decide (0 ≤ t) && decide (t < (b.l.length : Int))) = false := by
    by_cases h0 : 0 ≤ t
    · have : decide (t < (b.l.length : Int)) = false := by simp; omega
      rw [this, Bool.and_false]
    · have : decide (0 ≤ t) = false := by simpa using h0
      rw [this, Bool.false_and]
  rw [e1] at hh
  exact hh
theorem has_yes (h : BoardIn w p m lv nvs b) (t : Nat) (ht : t < b.l.length) : Calls Tryd.prog 38 #[.pointer (some ⟨p, 0, none⟩), .int .i64 (t : Int)] w fun e w' => e = .returned (.bool true) ∧ w = w' := by
  have hh := has_any h (t : Int)
  have e1 : (decide ((0 : Int) ≤ (t : Int)) && decide ((t : Int) < (b.l.length : Int))) = true := by simp; omega
  rw [e1] at hh
  exact hh
set_option maxRecDepth 100000 in
theorem fails_no (h : BoardIn w p m lv nvs b) (t : Int) (ht : t < 0 ∨ (b.l.length : Int) ≤ t) : Calls Tryd.prog 15 #[.pointer (some ⟨p, 0, none⟩), .int .i64 t] w fun e w' => e = .returned (.int .i64 0) ∧ w = w' := by
  have HH := Lib.hid (has_no h t ht)
  clear h ht
  go_enter Tryd.func15, Tryd.ntmps15
  go_wp2_with fail
  refine HH.out.mono ?_
  rintro e w1 ⟨rfl, rfl⟩
  go_wp2_with fail
  go_ret
  exact ⟨rfl, rfl⟩
set_option maxRecDepth 100000 in
theorem fails_nil (t : Int) (w : World) : Calls Tryd.prog 15 #[.pointer none, .int .i64 t] w fun e w' => e = .returned (.int .i64 0) ∧ w = w' := by
  go_enter Tryd.func15, Tryd.ntmps15
  go_wp2_with fail
  refine (has_nil t _).mono ?_
  rintro e w1 ⟨rfl, rfl⟩
  go_wp2_with fail
  go_ret
  exact ⟨rfl, rfl⟩
set_option maxRecDepth 100000 in
theorem value_in (h : BoardIn w p m lv nvs b) (t : Nat) (ht : t < b.l.length) : Calls Tryd.prog 41 #[.pointer (some ⟨p, 0, none⟩), .int .i64 (t : Int)] w fun e w' => e = .returned (if b.l[t].is then .tuple #[.string (bs b.l[t].value), .int .i64 0] else .tuple #[.string (bs []), .int .i64 3]) ∧ w = w' := by
  obtain ⟨d0, _, _, _, _⟩ := h.cells
  obtain ⟨g, cap, rfl, hix, _, c1, c2, _, _⟩ := h.index t ht
  have HH := Lib.hid (has_yes h t ht)
  generalize b.l[t].value = v, b.l[t].is = s at *
  clear h
  cases s with
  | false =>
    go_enter Tryd.func41, Tryd.ntmps41
    go_wp2_with fail
    refine HH.out.mono ?_
    rintro e w1 ⟨rfl, rfl⟩
    go_wp2_with fail
    go_ret2
    exact ⟨rfl, rfl⟩
  | true =>
    go_enter Tryd.func41, Tryd.ntmps41
    go_wp2_with fail
    refine HH.out.mono ?_
    rintro e w1 ⟨rfl, rfl⟩
    go_wp2_with fail
    go_ret2
    exact ⟨rfl, rfl⟩
set_option maxRecDepth 100000 in
theorem value_no (h : BoardIn w p m lv nvs b) (t : Int) (ht : t < 0 ∨ (b.l.length : Int) ≤ t) : Calls Tryd.prog 41 #[.pointer (some ⟨p, 0, none⟩), .int .i64 t] w fun e w' => e = .returned (.tuple #[.string (bs []), .int .i64 2]) ∧ w = w' := by
  have HH := Lib.hid (has_no h t ht)
  clear h ht
  go_enter Tryd.func41, Tryd.ntmps41
  go_wp2_with fail
  refine HH.out.mono ?_
  rintro e w1 ⟨rfl, rfl⟩
  go_wp2_with fail
  go_ret2
  exact ⟨rfl, rfl⟩
set_option maxRecDepth 100000 in
theorem value_nil (t : Int) (w : World) : Calls Tryd.prog 41 #[.pointer none, .int .i64 t] w fun e w' => e = .returned (.tuple #[.string (bs []), .int .i64 1]) ∧ w = w' := by
  go_enter Tryd.func41, Tryd.ntmps41
  go_wp2_with fail
  go_ret2
  exact ⟨rfl, rfl⟩
end
end Go.Proofs.YtgmhglcdifhimaaDoor
