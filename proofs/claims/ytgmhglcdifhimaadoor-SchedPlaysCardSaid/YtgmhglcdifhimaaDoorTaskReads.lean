/- How a board of tasks lies in memory. maslin/task: what a board is asked, walked: has, At, Over, Fails, Value; and no board. -/
import Derived.Test.YtgmhglcdifhimaaDoorBlk
import Derived.Test.YtgmhglcdifhimaaDoorTaskPlain
import Derived.Test.YtgmhglcdifhimaaDoorReads
import Derived.BigQuiet
import Derived.Deep.QuietTactic
import Derived.WalkSpells
namespace Go.Proofs.YtgmhglcdifhimaaDoor
open Go.RowKit Go.Maps
open Tsk

/-- A row of numbers that nobody writes to again; it may be none. -/
def NumsOk (w : World) (v : Value) (l : List Nat) : Prop :=
  ∃ a cap, v = .slice a l.length cap ∧ ∀ i (h : i < l.length), ∃ g o, a = some ⟨g, o, none⟩ ∧ BlkOf w g 3 ∧ w.cell? ⟨g, o + i, none⟩ = some (.int .i64 (l[i] : Int))
theorem NumsOk.upd {F : Nat → Prop} {w w' : World} {v : Value} {l : List Nat} (h : NumsOk w v l) (hu : Upd F w w') (hF : ∀ k, BlkOf w k 3 → ¬ F k) : NumsOk w' v l := by
  obtain ⟨a, cap, e, h⟩ := h
  refine ⟨a, cap, e, fun i hi => ?_⟩
  obtain ⟨g, o, e1, e2, e3⟩ := h i hi
  exact ⟨g, o, e1, e2.upd hu (hF g e2), (hu.cell (p := ⟨g, o + i, none⟩) e2.lt (hF g e2)).trans e3⟩
theorem NumsOk.below {w w' : World} {v : Value} {l : List Nat} (h : NumsOk w v l) (hb : Below w.heap.size w w') : NumsOk w' v l := h.upd (Upd.of_below (F := fun _ => False) hb) (fun _ _ f => f)

/-- The cells of a task. -/
def oneCells (nv : Value) (x : Task) : List Value := [nv, .bool x.is, .string (bs x.value), .int .i64 (x.fails : Int)]
@[irreducible] def allCells (nvs : List Value) (l : List Task) : List Value := (nvs.zip l).flatMap fun p => oneCells p.1 p.2
theorem allCells_nil : allCells [] [] = [] := by unfold allCells; rfl
theorem allCells_cons (v : Value) (nvs : List Value) (x : Task) (l : List Task) : allCells (v :: nvs) (x :: l) = oneCells v x ++ allCells nvs l := by unfold allCells; rfl
theorem allCells_length : ∀ (nvs : List Value) (l : List Task), nvs.length = l.length → (allCells nvs l).length = l.length * 4
  | [], [], _ => by rw [allCells_nil]; rfl
  | [], x :: l, h => by simp at h
  | v :: nvs, [], h => by simp at h
  | v :: nvs, x :: l, h => by
    rw [allCells_cons, List.length_append, allCells_length nvs l (by simpa using h)]
    show 4 + _ = (l.length + 1) * 4
    omega
theorem allCells_get : ∀ (nvs : List Value) (l : List Task) (h : nvs.length = l.length) (k : Nat) (hk : k < l.length) (j : Nat), j < 4 → (allCells nvs l)[k * 4 + j]? = (oneCells (nvs[k]'(by omega)) l[k])[j]?
  | [], [], _, k, hk, _, _ => by simp at hk
  | [], x :: l, h, _, _, _, _ => by simp at h
  | v :: nvs, [], h, _, _, _, _ => by simp at h
  | v :: nvs, x :: l, h, 0, _, j, hj => by
    rw [allCells_cons, Nat.zero_mul, Nat.zero_add, List.getElem?_append_left (by show j < 4; exact hj)]
    rfl
  | v :: nvs, x :: l, h, k + 1, hk, j, hj => by
    rw [allCells_cons, List.getElem?_append_right (by show 4 ≤ _; omega), show (k + 1) * 4 + j - (oneCells v x).length = k * 4 + j by show _ - 4 = _; omega]
    exact allCells_get nvs l (by simpa using h) k (by simpa using hk) j hj
theorem allCells_set (nvs : List Value) (l : List Task) (h : nvs.length = l.length) (k : Nat) (hk : k < l.length) (j : Nat) (hj : j < 4) (u : Value) (y : Task) (hy : oneCells (nvs[k]'(by omega)) y = (oneCells (nvs[k]'(by omega)) l[k]).set j u) :
    (allCells nvs l).set (k * 4 + j) u = allCells nvs (l.set k y) := by
  apply List.ext_getElem?
  intro i
  have hl := allCells_length nvs l h
  have hl2 := allCells_length nvs (l.set k y) (by simpa using h)
  by_cases hi : i < l.length * 4
  · have e : i = i / 4 * 4 + i % 4 := by omega
    have h4 : i % 4 < 4 := Nat.mod_lt _ (by decide)
    have hq : i / 4 < l.length := by omega
    rw [List.getElem?_set]
    by_cases hik : k * 4 + j = i
    · have h1 : i / 4 = k := by omega
      have h2 : i % 4 = j := by omega
      rw [if_pos hik, if_pos (by omega), e, allCells_get nvs _ (by simpa using h) (i / 4) (by simpa using hq) (i % 4) h4]
      subst h1; subst h2
      simp only [List.getElem_set_self]
      rw [hy, List.getElem?_set_self (by show _ < 4; exact h4)]
    · rw [if_neg hik, e, allCells_get nvs l h (i / 4) hq (i % 4) h4, allCells_get nvs _ (by simpa using h) (i / 4) (by simpa using hq) (i % 4) h4]
      by_cases hk2 : k = i / 4
      · subst hk2
        simp only [List.getElem_set_self]
        rw [hy, List.getElem?_set_ne (by omega)]
      · rw [List.getElem_set_ne hk2]
  · rw [List.getElem?_eq_none (by rw [List.length_set]; omega), List.getElem?_eq_none (by rw [hl2, List.length_set]; omega)]
theorem allCells_one (nvs : List Value) (l : List Task) (h : nvs.length = l.length) (hn : ∀ v ∈ nvs, v.oneCell' = true) : ∀ u ∈ allCells nvs l, u.oneCell' = true := by
  intro u hu
  obtain ⟨i, hi, rfl⟩ := List.getElem_of_mem hu
  have hl := allCells_length nvs l h
  have h4 : i % 4 < 4 := Nat.mod_lt _ (by decide)
  have hq : i / 4 < l.length := by omega
  have e := allCells_get nvs l h (i / 4) hq (i % 4) h4
  rw [show i / 4 * 4 + i % 4 = i by omega, List.getElem?_eq_getElem hi] at e
  have hm : (allCells nvs l)[i] ∈ oneCells (nvs[i / 4]'(by omega)) l[i / 4] := List.mem_of_getElem? e.symm
  simp only [oneCells, List.mem_cons, List.not_mem_nil, or_false] at hm
  rcases hm with hm | hm | hm | hm <;> rw [hm]
  · exact hn _ (List.getElem_mem _)
  · rfl
  · rfl
  · rfl

/-- A row of one's own in which a cell is turned. -/
theorem ownsRow_turned {w : World} {base e s g n cap : Nat} {xs : List Value} (h : w.ownsRow base e s (.slice (some ⟨g, 0, none⟩) n cap) n xs) (i : Nat) (u : Value) :
    (w.setCell ⟨g, i, none⟩ u).ownsRow base e s (.slice (some ⟨g, 0, none⟩) n cap) n (xs.set i u) := by
  rcases h.2 with ⟨e1, _⟩ | ⟨g', cap', cur, e1, hb, hg, h1, h2, h3, h4⟩
  · cases e1
  · injection e1 with e1 _ e2
    injection e1 with e1
    injection e1 with e1 _ _
    subst e1; subst e2
    refine ⟨by rw [List.length_set]; exact h.1, .inr ⟨g, cap, cur.setIfInBounds i u, rfl, hb, heap_setCell_same w g i _ _ u hg, h1, h2, by rw [Array.size_setIfInBounds]; exact h3, ?_⟩⟩
    rw [Array.toList_setIfInBounds, ← h4, List.take_set]

/-- A board in memory: its struct in block p, its map in block m, its tasks behind lv, what they need behind nvs. -/
structure BoardIn (w : World) (p m : Nat) (lv : Value) (nvs : List Value) (b : Board) : Prop where
  struct : w.heap[p]? = some (.cells #[lv, .map (some m), .int .i64 (b.retries : Int), .int .i64 (match b.failed with | some t => (t : Int) | none => -1)] 83)
  at_ : IntMap Tryd.prog 3 w m (b.tries.map fun q => (q.1, .int .i64 (q.2 : Int)))
  row : w.ownsRow 0 87 4 lv b.l.length (allCells nvs b.l)
  nlen : nvs.length = b.l.length
  needs : ∀ i (h : i < b.l.length) (h' : i < nvs.length), NumsOk w nvs[i] b.l[i].needs
/-- The blocks that a board has. -/
def boardBlocks (p m : Nat) (lv : Value) (k : Nat) : Prop := k = p ∨ k = m ∨ lv.ownBlock = some k
def BoardAt (w : World) (p : Nat) (b : Board) (fp : Nat → Prop) : Prop := ∃ m lv nvs, BoardIn w p m lv nvs b ∧ fp = boardBlocks p m lv
theorem IntMap.notCells {w : World} {m : Nat} {kv : List (Int × Value)} {P : Program} {K t : TypeId} (h : IntMap P K w m kv) : ¬ BlkOf w m t := by
  obtain ⟨_, D, ⟨es, clock, hm, _⟩, _⟩ := h
  rintro ⟨cs, fr, hb⟩
  rw [hm] at hb
  injection hb with hb
  cases hb
section
variable {w w' : World} {p m : Nat} {lv : Value} {nvs : List Value} {b : Board} {fp F : Nat → Prop}
theorem BoardIn.lt (h : BoardIn w p m lv nvs b) : ∀ k, boardBlocks p m lv k → k < w.heap.size := by
  rintro k (rfl | rfl | hk)
  · exact blk_lt h.struct
  · exact h.at_.lt
  · exact ownsRow_lt h.row hk
/-- A board's blocks have boards, tasks; the map's has no cells. -/
theorem BoardIn.kind (h : BoardIn w p m lv nvs b) {k : Nat} (hk : boardBlocks p m lv k) {t : TypeId} (hb : BlkOf w k t) : t = 83 ∨ t = 87 := by
  rcases hk with rfl | rfl | hk
  · by_cases e : t = 83
    · exact .inl e
    · exact absurd rfl (BlkOf.ne hb ⟨_, _, h.struct⟩ e)
  · exact absurd hb h.at_.notCells
  · by_cases e : t = 87
    · exact .inr e
    · exact absurd rfl (BlkOf.ne hb (ownsRow_blk h.row hk) e)
theorem BoardIn.nums (h : BoardIn w p m lv nvs b) {k : Nat} (hb : BlkOf w k 3) : ¬ boardBlocks p m lv k := fun hk => by
  have := h.kind hk hb
  revert this; decide
theorem BoardIn.upd (h : BoardIn w p m lv nvs b) (hu : Upd F w w') (hF : ∀ k, boardBlocks p m lv k → ¬ F k) (hN : ∀ k, BlkOf w k 3 → ¬ F k) : BoardIn w' p m lv nvs b :=
  ⟨(hu.block p (blk_lt h.struct) (hF p (.inl rfl))).trans h.struct, h.at_.upd hu (hF m (.inr (.inl rfl))), ownsRow_upd h.row hu (fun g hg => hF g (.inr (.inr hg))), h.nlen, fun i hi hi' => (h.needs i hi hi').upd hu hN⟩
end
end Go.Proofs.YtgmhglcdifhimaaDoor

namespace Go.Proofs.YtgmhglcdifhimaaDoor
open Go.RowKit Go.Maps
open Tsk

theorem kvGet_tries (l : List (Int × Nat)) (x : Int) : kvGet (l.map fun q => (q.1, Value.int .i64 (q.2 : Int))) x = ((l.find? (fun p => p.1 == x)).map (fun q => q.2)).map (fun (t : Nat) => Value.int .i64 (t : Int)) := by
  unfold kvGet
  induction l with
  | nil => rfl
  | cons q l ih =>
    simp only [List.map_cons, List.find?_cons]
    split
    · rfl
    · exact ih
section
variable {w : World} {p m : Nat} {lv : Value} {nvs : List Value} {b : Board}
theorem BoardIn.cells (h : BoardIn w p m lv nvs b) :
    w.cell? ⟨p, 0, none⟩ = some lv ∧ w.cell? ⟨p, 1, none⟩ = some (.map (some m)) ∧ w.cell? ⟨p, 2, none⟩ = some (.int .i64 (b.retries : Int)) ∧ w.cell? ⟨p, 3, none⟩ = some (.int .i64 (match b.failed with | some t => (t : Int) | none => -1)) ∧ ∀ j, w.frozen? ⟨p, j, none⟩ = false := by
  refine ⟨?_, ?_, ?_, ?_, fun j => frozen_of_row w p j _ _ h.struct⟩ <;> rw [cell_of_row w p _ _ _ _ h.struct] <;> rfl
theorem BoardIn.slice (h : BoardIn w p m lv nvs b) : ∃ q cap, lv = .slice q b.l.length cap := by
  rcases h.row.2 with ⟨e1, e2⟩ | ⟨g, cap, cur, e1, _⟩
  · exact ⟨none, 0, by rw [e1, e2]⟩
  · exact ⟨_, cap, e1⟩
/-- A task, where it lies. -/
theorem BoardIn.index (h : BoardIn w p m lv nvs b) (t : Nat) (ht : t < b.l.length) :
    ∃ g cap, lv = .slice (some ⟨g, 0, none⟩) b.l.length cap ∧ (∀ W, (Instr.indexAt 80 lv (.int .i64 (t : Int))).run Tryd.prog W = .ok (.pointer (some ⟨g, t * 4, none⟩)) W) ∧
      w.cell? ⟨g, t * 4, none⟩ = nvs[t]? ∧ w.cell? ⟨g, t * 4 + 1, none⟩ = some (.bool b.l[t].is) ∧ w.cell? ⟨g, t * 4 + 2, none⟩ = some (.string (bs b.l[t].value)) ∧ w.cell? ⟨g, t * 4 + 3, none⟩ = some (.int .i64 (b.l[t].fails : Int)) ∧ ∀ j, w.frozen? ⟨g, j, none⟩ = false := by
  rcases h.row.2 with ⟨_, e2⟩ | ⟨g, cap, cur, e1, _, hg, _⟩
  · omega
  · subst e1
    have hc := h.row.cells (g := g) rfl
    have key : ∀ j (hj : j < 4) v, (oneCells (nvs[t]'(by have := h.nlen; omega)) b.l[t])[j]? = some v → w.cell? ⟨g, t * 4 + j, none⟩ = some v := fun j hj v hv => by
      rw [← allCells_get nvs b.l h.nlen t ht j hj] at hv
      have := hc _ _ hv
      rw [add_plain] at this
      exact this
    refine ⟨g, cap, rfl, fun W => ?_, (key 0 (by omega) _ rfl).trans (List.getElem?_eq_getElem (by have := h.nlen; omega)).symm, key 1 (by omega) _ rfl, key 2 (by omega) _ rfl, key 3 (by omega) _ rfl, fun j => frozen_of_row w g j _ _ hg⟩
    have := run_index_slice Tryd.prog 80 87 Tryd.underlying80 4 (by kernel_rfl) ⟨g, 0, none⟩ b.l.length cap t ht W
    rw [add_plain] at this
    exact this

set_option maxRecDepth 100000 in
theorem has_any (h : BoardIn w p m lv nvs b) (t : Int) : Calls Tryd.prog 38 #[.pointer (some ⟨p, 0, none⟩), .int .i64 t] w fun e w' => e = .returned (.bool (decide (0 ≤ t) && decide (t < (b.l.length : Int)))) ∧ w = w' := by
  obtain ⟨d0, _, _, _, _⟩ := h.cells
  obtain ⟨q, cap, rfl⟩ := h.slice
  clear h
  by_cases h0 : 0 ≤ t
  · go_enter Tryd.func38, Tryd.ntmps38
    go_wp2_with fail
    go_ret
    exact ⟨by simp [h0], rfl⟩
  · have e0 : decide (0 ≤ t) = false := by simpa using h0
    go_enter Tryd.func38, Tryd.ntmps38
    go_wp2_with fail
    go_ret
    exact ⟨rfl, rfl⟩
set_option maxRecDepth 100000 in
theorem has_nil (t : Int) (w : World) : Calls Tryd.prog 38 #[.pointer none, .int .i64 t] w fun e w' => e = .returned (.bool false) ∧ w = w' := by
  go_enter Tryd.func38, Tryd.ntmps38
  go_wp2_with fail
  go_ret
  exact ⟨rfl, rfl⟩
set_option maxRecDepth 100000 in
theorem over_any (h : BoardIn w p m lv nvs b) : Calls Tryd.prog 36 #[.pointer (some ⟨p, 0, none⟩)] w fun e w' => e = .returned (.tuple #[.int .i64 ((b.failed.getD 0 : Nat) : Int), .bool b.failed.isSome]) ∧ w = w' := by
  obtain ⟨_, _, _, d3, _⟩ := h.cells
  clear h
  obtain ⟨l, tr, re, fa⟩ := b
  cases fa with
  | none =>
    have d3 : w.cell? ⟨p, 3, none⟩ = some (.int .i64 (-1)) := d3
    go_enter Tryd.func36, Tryd.ntmps36
    go_wp2_with fail
    go_ret2
    exact ⟨rfl, rfl⟩
  | some t =>
    have d3 : w.cell? ⟨p, 3, none⟩ = some (.int .i64 (t : Int)) := d3
    have hlt : decide ((t : Int) < 0) = false := by simp
    go_enter Tryd.func36, Tryd.ntmps36
    go_wp2_with fail
    go_ret2
    exact ⟨rfl, rfl⟩
set_option maxRecDepth 100000 in
theorem over_nil (w : World) : Calls Tryd.prog 36 #[.pointer none] w fun e w' => e = .returned (.tuple #[.int .i64 0, .bool false]) ∧ w = w' := by
  go_enter Tryd.func36, Tryd.ntmps36
  go_wp2_with fail
  go_ret2
  exact ⟨rfl, rfl⟩
theorem BoardIn.look (h : BoardIn w p m lv nvs b) (x : Int) (hx : (Lit.int .i64 x).wf = true) (W : World) (hW : W.heap[m]? = w.heap[m]?) :
    (Instr.lookup 81 (.map (some m)) (.int .i64 x) true).run Tryd.prog W = .ok (.tuple #[.int .i64 (((b.at_ x).getD 0 : Nat) : Int), .bool (b.at_ x).isSome]) W := by
  have hk := h.at_.kept hW
  have hr := hk.lookup_ok Tryd.underlying3 Tryd.underlying81 (z := .int .i64 0) ((zero_of_info (show (Tryd.prog.info? 3).map (fun i => (i.zero, i.size)) = some (some (.int .i64 0), 1) by kernel_rfl)).1 W) x hx
  rw [hr, kvGet_tries]
  unfold Board.at_
  cases (b.tries.find? fun p => p.1 == x).map (·.2) <;> rfl
set_option maxRecDepth 100000 in
theorem at_any (h : BoardIn w p m lv nvs b) (x : Int) (hx : (Lit.int .i64 x).wf = true) : Calls Tryd.prog 13 #[.pointer (some ⟨p, 0, none⟩), .int .i64 x] w fun e w' => e = .returned (.tuple #[.int .i64 (((b.at_ x).getD 0 : Nat) : Int), .bool (b.at_ x).isSome]) ∧ w = w' := by
  obtain ⟨_, d1, _, _, _⟩ := h.cells
  have hl := h.look x hx w rfl
  generalize ((b.at_ x).getD 0 : Nat) = t, (b.at_ x).isSome = s at *
  clear h hx
  go_enter Tryd.func13, Tryd.ntmps13
  go_wp2_with fail
  go_ret2
  exact ⟨rfl, rfl⟩
set_option maxRecDepth 100000 in
theorem at_nil (x : Int) (w : World) : Calls Tryd.prog 13 #[.pointer none, .int .i64 x] w fun e w' => e = .returned (.tuple #[.int .i64 0, .bool false]) ∧ w = w' := by
  go_enter Tryd.func13, Tryd.ntmps13
  go_wp2_with fail
  go_ret2
  exact ⟨rfl, rfl⟩
set_option maxRecDepth 100000 in
theorem fails_in (h : BoardIn w p m lv nvs b) (t : Nat) (ht : t < b.l.length) : Calls Tryd.prog 15 #[.pointer (some ⟨p, 0, none⟩), .int .i64 (t : Int)] w fun e w' => e = .returned (.int .i64 (b.l[t].fails : Int)) ∧ w = w' := by
  obtain ⟨d0, _, _, _, _⟩ := h.cells
  obtain ⟨g, cap, rfl, hix, _, _, _, c3, _⟩ := h.index t ht
  have hh := has_any h (t : Int)
  have e1 : (decide ((0 : Int) ≤ (t : Int)) && decide ((t : Int) < (b.l.length : Int))) = true := by simp; omega
  rw [e1] at hh
  have HH := Lib.hid hh
  generalize b.l[t].fails = f at *
  clear h hh e1
  go_enter Tryd.func15, Tryd.ntmps15
  go_wp2_with fail
  refine HH.out.mono ?_
  rintro e w1 ⟨rfl, rfl⟩
  go_wp2_with fail
  go_ret
  exact ⟨rfl, rfl⟩
theorem has_no (h : BoardIn w p m lv nvs b) (t : Int) (ht : t < 0 ∨ (b.l.length : Int) ≤ t) : Calls Tryd.prog 38 #[.pointer (some ⟨p, 0, none⟩), .int .i64 t] w fun e w' => e = .returned (.bool false) ∧ w = w' := by
  have hh := has_any h t
  have e1 : (decide (0 ≤ t) && decide (t < (b.l.length : Int))) = false := by
    by_cases h0 : 0 ≤ t
    · have : decide (t < (b.l.length : Int)) = false := by simp; omega
      rw [this, Bool.and_false]
    · have : decide (0 ≤ t) = false := by simpa using h0
      rw [this, Bool.false_and]
  rw [e1] at hh
  exact hh
theorem has_yes (h : BoardIn w p m lv nvs b) (t : Nat) (ht : t < b.l.length) : Calls Tryd.prog 38 #[.pointer (some ⟨p, 0, none⟩), .int .i64 (t : Int)] w fun e w' => e = .returned (.bool true) ∧ w = w' := by
  have hh := has_any h (t : Int)
  have e1 : (decide ((0 : Int) ≤ (t : Int)) && decide ((t : Int) < (b.l.length : Int))) = true := by simp; omega
  rw [e1] at hh
  exact hh
set_option maxRecDepth 100000 in
theorem fails_no (h : BoardIn w p m lv nvs b) (t : Int) (ht : t < 0 ∨ (b.l.length : Int) ≤ t) : Calls Tryd.prog 15 #[.pointer (some ⟨p, 0, none⟩), .int .i64 t] w fun e w' => e = .returned (.int .i64 0) ∧ w = w' := by
  have HH := Lib.hid (has_no h t ht)
  clear h ht
  go_enter Tryd.func15, Tryd.ntmps15
  go_wp2_with fail
  refine HH.out.mono ?_
  rintro e w1 ⟨rfl, rfl⟩
  go_wp2_with fail
  go_ret
  exact ⟨rfl, rfl⟩
set_option maxRecDepth 100000 in
theorem fails_nil (t : Int) (w : World) : Calls Tryd.prog 15 #[.pointer none, .int .i64 t] w fun e w' => e = .returned (.int .i64 0) ∧ w = w' := by
  go_enter Tryd.func15, Tryd.ntmps15
  go_wp2_with fail
  refine (has_nil t _).mono ?_
  rintro e w1 ⟨rfl, rfl⟩
  go_wp2_with fail
  go_ret
  exact ⟨rfl, rfl⟩
set_option maxRecDepth 100000 in
theorem value_in (h : BoardIn w p m lv nvs b) (t : Nat) (ht : t < b.l.length) : Calls Tryd.prog 41 #[.pointer (some ⟨p, 0, none⟩), .int .i64 (t : Int)] w fun e w' => e = .returned (if b.l[t].is then .tuple #[.string (bs b.l[t].value), .int .i64 0] else .tuple #[.string (bs []), .int .i64 3]) ∧ w = w' := by
  obtain ⟨d0, _, _, _, _⟩ := h.cells
  obtain ⟨g, cap, rfl, hix, _, c1, c2, _, _⟩ := h.index t ht
  have HH := Lib.hid (has_yes h t ht)
  generalize b.l[t].value = v, b.l[t].is = s at *
  clear h
  cases s with
  | false =>
    go_enter Tryd.func41, Tryd.ntmps41
    go_wp2_with fail
    refine HH.out.mono ?_
    rintro e w1 ⟨rfl, rfl⟩
    go_wp2_with fail
    go_ret2
    exact ⟨rfl, rfl⟩
  | true =>
    go_enter Tryd.func41, Tryd.ntmps41
    go_wp2_with fail
    refine HH.out.mono ?_
    rintro e w1 ⟨rfl, rfl⟩
    go_wp2_with fail
    go_ret2
    exact ⟨rfl, rfl⟩
set_option maxRecDepth 100000 in
theorem value_no (h : BoardIn w p m lv nvs b) (t : Int) (ht : t < 0 ∨ (b.l.length : Int) ≤ t) : Calls Tryd.prog 41 #[.pointer (some ⟨p, 0, none⟩), .int .i64 t] w fun e w' => e = .returned (.tuple #[.string (bs []), .int .i64 2]) ∧ w = w' := by
  have HH := Lib.hid (has_no h t ht)
  clear h ht
  go_enter Tryd.func41, Tryd.ntmps41
  go_wp2_with fail
  refine HH.out.mono ?_
  rintro e w1 ⟨rfl, rfl⟩
  go_wp2_with fail
  go_ret2
  exact ⟨rfl, rfl⟩
set_option maxRecDepth 100000 in
theorem value_nil (t : Int) (w : World) : Calls Tryd.prog 41 #[.pointer none, .int .i64 t] w fun e w' => e = .returned (.tuple #[.string (bs []), .int .i64 1]) ∧ w = w' := by
  go_enter Tryd.func41, Tryd.ntmps41
  go_wp2_with fail
  go_ret2
  exact ⟨rfl, rfl⟩
end
end Go.Proofs.YtgmhglcdifhimaaDoor
