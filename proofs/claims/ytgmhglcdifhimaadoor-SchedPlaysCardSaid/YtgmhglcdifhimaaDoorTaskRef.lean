/- How the document's board (maslinref30) lies in memory; At, Done, Workers, walked. -/
import Derived.Test.YtgmhglcdifhimaaDoorTaskCopied
import Derived.Test.YtgmhglcdifhimaaDoorTaskGoesLaw
import Derived.Test.YtgmhglcdifhimaaDoorTaskNeedsLaw
namespace Go.Proofs.YtgmhglcdifhimaaDoor
open Go.RowKit Go.Maps Go.Sort
open Tsk

/-- Attempts as cells, the eldest first. -/
@[irreducible] def tryCells (l : List (Int × Nat)) : List Value := l.flatMap fun q => [Value.int .i64 q.1, .int .i64 (q.2 : Int)]
theorem tryCells_nil : tryCells [] = [] := by unfold tryCells; rfl
theorem tryCells_snoc (l : List (Int × Nat)) (q : Int × Nat) : tryCells (l ++ [q]) = tryCells l ++ [.int .i64 q.1, .int .i64 (q.2 : Int)] := by unfold tryCells; simp
theorem tryCells_length (l : List (Int × Nat)) : (tryCells l).length = l.length * 2 := by
  unfold tryCells
  induction l with
  | nil => rfl
  | cons p l ih => rw [List.flatMap_cons, List.length_append, ih]; simp; omega
theorem tryCells_get (l : List (Int × Nat)) (k : Nat) (hk : k < l.length) : (tryCells l)[k * 2]? = some (.int .i64 l[k].1) ∧ (tryCells l)[k * 2 + 1]? = some (.int .i64 (l[k].2 : Int)) := by
  induction l generalizing k with
  | nil => simp at hk
  | cons p l ih =>
    have e : tryCells (p :: l) = Value.int .i64 p.1 :: .int .i64 (p.2 : Int) :: tryCells l := by unfold tryCells; rfl
    rw [e]
    cases k with
    | zero => exact ⟨rfl, rfl⟩
    | succ k =>
      have := ih k (by simpa using hk)
      rw [show (k + 1) * 2 = k * 2 + 1 + 1 by omega]
      simpa using this
theorem tryCells_one (l : List (Int × Nat)) : ∀ u ∈ tryCells l, u.oneCell' = true := by
  intro u hu
  unfold tryCells at hu
  obtain ⟨p, _, h⟩ := List.mem_flatMap.1 hu
  simp at h
  rcases h with rfl | rfl <;> rfl

/-- The document's board in memory. -/
structure RefB (w : World) (r : Nat) (lv tv : Value) (nvs : List Value) (b : Board) : Prop where
  struct : w.heap[r]? = some (.cells #[lv, tv, .int .i64 (b.retries : Int), .int .i64 (match b.failed with | some t => (t : Int) | none => -1)] 106)
  row : w.ownsRow 0 108 4 lv b.l.length (allCells nvs b.l)
  tries : w.ownsRow 0 121 2 tv b.tries.length (tryCells b.tries.reverse)
  nlen : nvs.length = b.l.length
  needs : ∀ i (h : i < b.l.length) (h' : i < nvs.length), NumsOk w nvs[i] b.l[i].needs
def RefTy (t : TypeId) : Prop := t = 106 ∨ t = 108 ∨ t = 121 ∨ t = 3
section
variable {w w' : World} {r : Nat} {lv tv : Value} {nvs : List Value} {b : Board} {k : Nat}
theorem RefB.upd {F : Nat → Prop} (h : RefB w r lv tv nvs b) (hu : Upd F w w') (hF : ∀ k t, BlkOf w k t → RefTy t → ¬ F k) : RefB w' r lv tv nvs b :=
  ⟨(hu.block r (blk_lt h.struct) (hF r _ ⟨_, _, h.struct⟩ (.inl rfl))).trans h.struct, ownsRow_upd h.row hu (fun _ hg => hF _ _ (ownsRow_blk h.row hg) (.inr (.inl rfl))), ownsRow_upd h.tries hu (fun _ hg => hF _ _ (ownsRow_blk h.tries hg) (.inr (.inr (.inl rfl)))), h.nlen,
    fun i hi hi' => (h.needs i hi hi').upd hu (fun _ hb => hF _ _ hb (.inr (.inr (.inr rfl))))⟩
theorem RefB.below (h : RefB w r lv tv nvs b) (hb : Below w.heap.size w w') : RefB w' r lv tv nvs b := h.upd (Upd.of_below (F := fun _ => False) hb) (fun _ _ _ _ f => f)
theorem RefB.cells (h : RefB w r lv tv nvs b) :
    w.cell? ⟨r, 0, none⟩ = some lv ∧ w.cell? ⟨r, 1, none⟩ = some tv ∧ w.cell? ⟨r, 2, none⟩ = some (.int .i64 (b.retries : Int)) ∧ w.cell? ⟨r, 3, none⟩ = some (.int .i64 (match b.failed with | some t => (t : Int) | none => -1)) ∧ ∀ j, w.frozen? ⟨r, j, none⟩ = false := by
  refine ⟨?_, ?_, ?_, ?_, fun j => frozen_of_row w r j _ _ h.struct⟩ <;> rw [cell_of_row w r _ _ _ _ h.struct] <;> rfl
/-- A task, where it lies. -/
theorem RefB.index (h : RefB w r lv tv nvs b) (t : Nat) (ht : t < b.l.length) :
    ∃ g cap, lv = .slice (some ⟨g, 0, none⟩) b.l.length cap ∧ (∀ W, (Instr.indexAt 103 lv (.int .i64 (t : Int))).run Tryd.prog W = .ok (.pointer (some ⟨g, t * 4, none⟩)) W) ∧
      w.cell? ⟨g, t * 4, none⟩ = nvs[t]? ∧ w.cell? ⟨g, t * 4 + 1, none⟩ = some (.bool b.l[t].is) ∧ w.cell? ⟨g, t * 4 + 2, none⟩ = some (.string (bs b.l[t].value)) ∧ w.cell? ⟨g, t * 4 + 3, none⟩ = some (.int .i64 (b.l[t].fails : Int)) ∧ ∀ j, w.frozen? ⟨g, j, none⟩ = false := by
  rcases h.row.2 with ⟨_, e2⟩ | ⟨g, cap, cur, e1, _, hg, _⟩
  · omega
  · subst e1
    have hc := h.row.cells (g := g) rfl
    have key : ∀ j (hj : j < 4) v, (oneCells (nvs[t]'(by have := h.nlen; omega)) b.l[t])[j]? = some v → w.cell? ⟨g, t * 4 + j, none⟩ = some v := fun j hj v hv => by
      rw [← allCells_get nvs b.l h.nlen t ht j hj] at hv
      have := hc _ _ hv
      rw [add_plain] at this
      exact this
    refine ⟨g, cap, rfl, fun W => ?_, (key 0 (by omega) _ rfl).trans (List.getElem?_eq_getElem (by have := h.nlen; omega)).symm, key 1 (by omega) _ rfl, key 2 (by omega) _ rfl, key 3 (by omega) _ rfl, fun j => frozen_of_row w g j _ _ hg⟩
    have := run_index_slice Tryd.prog 103 108 Tryd.underlying103 4 (by kernel_rfl) ⟨g, 0, none⟩ b.l.length cap t ht W
    rw [add_plain] at this
    exact this
/-- An attempt, where it lies. -/
theorem RefB.try_ (h : RefB w r lv tv nvs b) (t : Nat) (ht : t < b.tries.reverse.length) :
    ∃ g cap, tv = .slice (some ⟨g, 0, none⟩) b.tries.length cap ∧ (∀ W, (Instr.indexAt 104 tv (.int .i64 (t : Int))).run Tryd.prog W = .ok (.pointer (some ⟨g, t * 2, none⟩)) W) ∧
      w.cell? ⟨g, t * 2, none⟩ = some (.int .i64 b.tries.reverse[t].1) ∧ w.cell? ⟨g, t * 2 + 1, none⟩ = some (.int .i64 (b.tries.reverse[t].2 : Int)) := by
  have ht2 : t < b.tries.length := by simpa using ht
  rcases h.tries.2 with ⟨_, e2⟩ | ⟨g, cap, cur, e1, _, hg, _⟩
  · omega
  · subst e1
    have hc := h.tries.cells (g := g) rfl
    obtain ⟨g1, g2⟩ := tryCells_get b.tries.reverse t ht
    have k1 := hc _ _ g1
    have k2 := hc _ _ g2
    rw [add_plain] at k1 k2
    refine ⟨g, cap, rfl, fun W => ?_, k1, k2⟩
    have := run_index_slice Tryd.prog 104 121 Tryd.underlying104 2 (by kernel_rfl) ⟨g, 0, none⟩ b.tries.length cap t ht2 W
    rw [add_plain] at this
    exact this
theorem rev_len (b : Board) : b.tries.reverse.length = b.tries.length := List.length_reverse
theorem at_none_of {x : Int} (h : ∀ j (hj : j < b.tries.reverse.length), b.tries.reverse[j].1 ≠ x) : b.at_ x = none := by
  unfold Board.at_
  rw [Option.map_eq_none_iff, List.find?_eq_none]
  intro q hq
  obtain ⟨i, hi, e⟩ := List.getElem_of_mem (List.mem_reverse.2 hq)
  have := h i hi
  rw [e] at this
  simpa using this
set_option maxRecDepth 100000 in
set_option maxHeartbeats 1000000 in
theorem rat_any (h : RefB w r lv tv nvs b) (hF : b.Fine k) (hk : k ≤ 1000000) (x : Int) :
    Calls Tryd.prog 48 #[.pointer (some ⟨r, 0, none⟩), .int .i64 x] w fun e w' => e = .returned (.tuple #[.int .i64 (((b.at_ x).getD 0 : Nat) : Int), .bool (b.at_ x).isSome]) ∧ w = w' := by
  obtain ⟨_, c1, _, _, _⟩ := h.cells
  obtain ⟨q, cap, rfl⟩ := slice_len h.tries
  have HB := Lib.hid h
  have hcnt := hF.count
  have HN := Lib.hid hF.nodup
  have hrl := rev_len b
  have HRL := Lib.hid hrl
  clear h hF hrl
  go_enter Tryd.func48, Tryd.ntmps48
  go_wp2_with fail
  go_loopw [6] (fun i wr => ∃ j : Nat, j ≤ b.tries.length ∧ i = .int .i64 j ∧ w = wr ∧ ∀ i, i < j → (h : i < b.tries.reverse.length) → b.tries.reverse[i].1 ≠ x) (fun i _ => b.tries.length - (intOf i).toNat)
  case atStart => exact ⟨0, Nat.zero_le _, rfl, rfl, fun i hi => by omega⟩
  case round =>
    obtain ⟨j, hj, rfl, rfl, hno⟩ := hrel
    have HNO := Lib.hid hno
    clear hno
    by_cases hlt : j < b.tries.length
    · have hlr : j < b.tries.reverse.length := by rw [HRL.out]; exact hlt
      obtain ⟨g, cap', hg', hix, d0, d1⟩ := HB.out.try_ j hlr
      have HM := Lib.hid (List.mem_reverse.1 (List.getElem_mem hlr))
      have HNX := Lib.hid (show b.tries.reverse[j].1 ≠ x → ∀ i, i < j + 1 → (h : i < b.tries.reverse.length) → b.tries.reverse[i].1 ≠ x from fun h i hi h' => by
        by_cases e : i = j
        · subst e; exact h
        · exact HNO.out i (by omega) h')
      generalize b.tries.reverse[j] = q0 at *
      clear hg' hlr
      by_cases hx : q0.1 = x
      · have hb1 : (q0.1 == x) = true := by simpa using hx
        have HA := Lib.hid (show b.at_ x = some q0.2 from by rw [← hx]; exact at_of_mem HN.out HM.out)
        clear hx HNX
        go_wp2_with fail
        go_ret2
        rw [HA.out]
        exact ⟨rfl, rfl⟩
      · have hb1 : (q0.1 == x) = false := by simpa using hx
        have HN2 := Lib.hid (HNX.out hx)
        clear hx HNX
        go_wp2_with fail
        go_roundw
        case rel => exact ⟨j + 1, by omega, by go_num, by first | rfl | trivial, HN2.out⟩
        case measure => simp [intOf]; omega
    · obtain rfl : j = b.tries.length := by omega
      have HA := Lib.hid (at_none_of (x := x) (fun i hi => HNO.out i (by rw [HRL.out] at hi; exact hi) hi))
      go_wp2_with fail
      go_ret2
      rw [HA.out]
      exact ⟨rfl, rfl⟩
set_option maxRecDepth 100000 in
set_option maxHeartbeats 1000000 in
theorem rdone_any (h : RefB w r lv tv nvs b) (hF : b.Fine k) :
    Calls Tryd.prog 35 #[.pointer (some ⟨r, 0, none⟩)] w fun e w' => e = .returned (.bool b.done) ∧ w = w' := by
  obtain ⟨c0, _, _, _, _⟩ := h.cells
  obtain ⟨q, cap, rfl⟩ := slice_len h.row
  have HB := Lib.hid h
  have hlen := hF.len
  clear h hF
  go_enter Tryd.func35, Tryd.ntmps35
  go_wp2_with fail
  go_loopw [3] (fun i wr => ∃ j : Nat, j ≤ b.l.length ∧ i = .int .i64 j ∧ w = wr ∧ ∀ i, i < j → (h : i < b.l.length) → b.l[i].is = true) (fun i _ => b.l.length - (intOf i).toNat)
  case atStart => exact ⟨0, Nat.zero_le _, rfl, rfl, fun i hi => by omega⟩
  case round =>
    obtain ⟨j, hj, rfl, rfl, hall⟩ := hrel
    have HALL := Lib.hid hall
    clear hall
    by_cases hlt : j < b.l.length
    · obtain ⟨g, cap', hg', hix, _, d1, _, _, _⟩ := HB.out.index j hlt
      have HNO := Lib.hid (show b.l[j].is = false → b.done = false from fun h => List.all_eq_false.2 ⟨_, List.getElem_mem hlt, by rw [h]; decide⟩)
      have HNX := Lib.hid (show b.l[j].is = true → ∀ i, i < j + 1 → (h' : i < b.l.length) → b.l[i].is = true from fun h i hi h' => by
        by_cases e : i = j
        · subst e; exact h
        · exact HALL.out i (by omega) h')
      generalize b.l[j].is = s at *
      clear hg'
      cases s with
      | false =>
        have HD := Lib.hid (HNO.out rfl)
        clear HNO HNX
        go_wp2_with fail
        go_ret
        rw [HD.out]
        exact ⟨rfl, rfl⟩
      | true =>
        have HN := Lib.hid (HNX.out rfl)
        clear HNO HNX
        go_wp2_with fail
        go_roundw
        case rel => exact ⟨j + 1, by omega, by go_num, by first | rfl | trivial, HN.out⟩
        case measure => simp [intOf]; omega
    · obtain rfl : j = b.l.length := by omega
      have HD := Lib.hid (show b.done = true from List.all_eq_true.2 fun x hx => by
        obtain ⟨i, hi, rfl⟩ := List.getElem_of_mem hx
        exact HALL.out i hi hi)
      go_wp2_with fail
      go_ret
      rw [HD.out]
      exact ⟨rfl, rfl⟩
end
end Go.Proofs.YtgmhglcdifhimaaDoor
