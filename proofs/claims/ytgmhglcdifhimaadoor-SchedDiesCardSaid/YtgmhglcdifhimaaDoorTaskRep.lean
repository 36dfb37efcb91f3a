/- How a board of tasks lies in memory. -/
import Derived.Test.YtgmhglcdifhimaaDoorBlk
import Derived.Test.YtgmhglcdifhimaaDoorTaskPlain
import Derived.Test.YtgmhglcdifhimaaDoorReads
namespace Go.Proofs.YtgmhglcdifhimaaDoor
open Go.RowKit Go.Maps
open Tsk

/-- A row of numbers that nobody writes to again; it may be none. -/
def NumsOk (w : World) (v : Value) (l : List Nat) : Prop :=
  ∃ a cap, v = .slice a l.length cap ∧ ∀ i (h : i < l.length), ∃ g o, a = some ⟨g, o, none⟩ ∧ BlkOf w g 3 ∧ w.cell? ⟨g, o + i, none⟩ = some (.int .i64 (l[i] : Int))
theorem NumsOk.upd {F : Nat → Prop} {w w' : World} {v : Value} {l : List Nat} (h : NumsOk w v l) (hu : Upd F w w') (hF : ∀ k, BlkOf w k 3 → ¬ F k) : NumsOk w' v l := by
  obtain ⟨a, cap, e, h⟩ := h
  refine ⟨a, cap, e, fun i hi => ?_⟩
  obtain ⟨g, o, e1, e2, e3⟩ := h i hi
  exact ⟨g, o, e1, e2.upd hu (hF g e2), (hu.cell (p := ⟨g, o + i, none⟩) e2.lt (hF g e2)).trans e3⟩
theorem NumsOk.below {w w' : World} {v : Value} {l : List Nat} (h : NumsOk w v l) (hb : Below w.heap.size w w') : NumsOk w' v l := h.upd (Upd.of_below (F := fun _ => False) hb) (fun _ _ f => f)

/-- The cells of a task. -/
def oneCells (nv : Value) (x : Task) : List Value := [nv, .bool x.is, .string (bs x.value), .int .i64 (x.fails : Int)]
@[irreducible] def allCells (nvs : List Value) (l : List Task) : List Value := (nvs.zip l).flatMap fun p => oneCells p.1 p.2
theorem allCells_nil : allCells [] [] = [] := by unfold allCells; rfl
theorem allCells_cons (v : Value) (nvs : List Value) (x : Task) (l : List Task) : allCells (v :: nvs) (x :: l) = oneCells v x ++ allCells nvs l := by unfold allCells; rfl
theorem allCells_length : ∀ (nvs : List Value) (l : List Task), nvs.length = l.length → (allCells nvs l).length = l.length * 4
  | [], [], _ => by rw [allCells_nil]; rfl
  | [], x :: l, h => by simp at h
  | v :: nvs, [], h => by simp at h
  | v :: nvs, x :: l, h => by
    rw [allCells_cons, List.length_append, allCells_length nvs l (by simpa using h)]
    show 4 + _ = (l.length + 1) * 4
    omega
theorem allCells_get : ∀ (nvs : List Value) (l : List Task) (h : nvs.length = l.length) (k : Nat) (hk : k < l.length) (j : Nat), j < 4 → (allCells nvs l)[k * 4 + j]? = (oneCells (nvs[k]'(by omega)) l[k])[j]?
  | [], [], _, k, hk, _, _ => by simp at hk
  | [], x :: l, h, _, _, _, _ => by simp at h
  | v :: nvs, [], h, _, _, _, _ => by simp at h
  | v :: nvs, x :: l, h, 0, _, j, hj => by
    rw [allCells_cons, Nat.zero_mul, Nat.zero_add, List.getElem?_append_left (by show j < 4; exact hj)]
    rfl
  | v :: nvs, x :: l, h, k + 1, hk, j, hj => by
    rw [allCells_cons, List.getElem?_append_right (by show 4 ≤ _; omega), show (k + 1) * 4 + j - (oneCells v x).length = k * 4 + j by show _ - 4 = _; omega]
    exact allCells_get nvs l (by simpa using h) k (by simpa using hk) j hj
theorem allCells_set (nvs : List Value) (l : List Task) (h : nvs.length = l.length) (k : Nat) (hk : k < l.length) (j : Nat) (hj : j < 4) (u : Value) (y : Task) (hy : oneCells (nvs[k]'(by omega)) y = (oneCells (nvs[k]'(by omega)) l[k]).set j u) :
    (allCells nvs l).set (k * 4 + j) u = allCells nvs (l.set k y) := by
  apply List.ext_getElem?
  intro i
  have hl := allCells_length nvs l h
  have hl2 := allCells_length nvs (l.set k y) (by simpa using h)
  by_cases hi : i < l.length * 4
  · have e : i = i / 4 * 4 + i % 4 := by omega
    have h4 : i % 4 < 4 := Nat.mod_lt _ (by decide)
    have hq : i / 4 < l.length := by omega
    rw [List.getElem?_set]
    by_cases hik : k * 4 + j = i
    · have h1 : i / 4 = k := by omega
      have h2 : i % 4 = j := by omega
      rw [if_pos hik, if_pos (by omega), e, allCells_get nvs _ (by simpa using h) (i / 4) (by simpa using hq) (i % 4) h4]
      subst h1; subst h2
      simp only [List.getElem_set_self]
      rw [hy, List.getElem?_set_self (by show _ < 4; exact h4)]
    · rw [if_neg hik, e, allCells_get nvs l h (i / 4) hq (i % 4) h4, allCells_get nvs _ (by simpa using h) (i / 4) (by simpa using hq) (i % 4) h4]
      by_cases hk2 : k = i / 4
      · subst hk2
        simp only [List.getElem_set_self]
        rw [hy, List.getElem?_set_ne (by omega)]
      · rw [List.getElem_set_ne hk2]
  · rw [List.getElem?_eq_none (by rw [List.length_set]; omega), List.getElem?_eq_none (by rw [hl2, List.length_set]; omega)]
theorem allCells_one (nvs : List Value) (l : List Task) (h : nvs.length = l.length) (hn : ∀ v ∈ nvs, v.oneCell' = true) : ∀ u ∈ allCells nvs l, u.oneCell' = true := by
  intro u hu
  obtain ⟨i, hi, rfl⟩ := List.getElem_of_mem hu
  have hl := allCells_length nvs l h
  have h4 : i % 4 < 4 := Nat.mod_lt _ (by decide)
  have hq : i / 4 < l.length := by omega
  have e := allCells_get nvs l h (i / 4) hq (i % 4) h4
  rw [show i / 4 * 4 + i % 4 = i by omega, List.getElem?_eq_getElem hi] at e
  have hm : (allCells nvs l)[i] ∈ oneCells (nvs[i / 4]'(by omega)) l[i / 4] := List.mem_of_getElem? e.symm
  simp only [oneCells, List.mem_cons, List.not_mem_nil, or_false] at hm
  rcases hm with hm | hm | hm | hm <;> rw [hm]
  · exact hn _ (List.getElem_mem _)
  · rfl
  · rfl
  · rfl

/-- A row of one's own in which a cell is turned. -/
theorem ownsRow_turned {w : World} {base e s g n cap : Nat} {xs : List Value} (h : w.ownsRow base e s (.slice (some ⟨g, 0, none⟩) n cap) n xs) (i : Nat) (u : Value) :
    (w.setCell ⟨g, i, none⟩ u).ownsRow base e s (.slice (some ⟨g, 0, none⟩) n cap) n (xs.set i u) := by
  rcases h.2 with ⟨e1, _⟩ | ⟨g', cap', cur, e1, hb, hg, h1, h2, h3, h4⟩
  · cases e1
  · injection e1 with e1 _ e2
    injection e1 with e1
    injection e1 with e1 _ _
    subst e1; subst e2
    refine ⟨by rw [List.length_set]; exact h.1, .inr ⟨g, cap, cur.setIfInBounds i u, rfl, hb, heap_setCell_same w g i _ _ u hg, h1, h2, by rw [Array.size_setIfInBounds]; exact h3, ?_⟩⟩
    rw [Array.toList_setIfInBounds, ← h4, List.take_set]

/-- A board in memory: its struct in block p, its map in block m, its tasks behind lv, what they need behind nvs. -/
structure BoardIn (w : World) (p m : Nat) (lv : Value) (nvs : List Value) (b : Board) : Prop where
  struct : w.heap[p]? = some (.cells #[lv, .map (some m), .int .i64 (b.retries : Int), .int .i64 (match b.failed with | some t => (t : Int) | none => -1)] 83)
  at_ : IntMap Tryd.prog 3 w m (b.tries.map fun q => (q.1, .int .i64 (q.2 : Int)))
  row : w.ownsRow 0 87 4 lv b.l.length (allCells nvs b.l)
  nlen : nvs.length = b.l.length
  needs : ∀ i (h : i < b.l.length) (h' : i < nvs.length), NumsOk w nvs[i] b.l[i].needs
/-- The blocks that a board has. -/
def boardBlocks (p m : Nat) (lv : Value) (k : Nat) : Prop := k = p ∨ k = m ∨ lv.ownBlock = some k
def BoardAt (w : World) (p : Nat) (b : Board) (fp : Nat → Prop) : Prop := ∃ m lv nvs, BoardIn w p m lv nvs b ∧ fp = boardBlocks p m lv
theorem IntMap.notCells {w : World} {m : Nat} {kv : List (Int × Value)} {P : Program} {K t : TypeId} (h : IntMap P K w m kv) : ¬ BlkOf w m t := by
  obtain ⟨_, D, ⟨es, clock, hm, _⟩, _⟩ := h
  rintro ⟨cs, fr, hb⟩
  rw [hm] at hb
  injection hb with hb
  cases hb
section
variable {w w' : World} {p m : Nat} {lv : Value} {nvs : List Value} {b : Board} {fp F : Nat → Prop}
theorem BoardIn.lt (h : BoardIn w p m lv nvs b) : ∀ k, boardBlocks p m lv k → k < w.heap.size := by
  rintro k (rfl | rfl | hk)
  · exact blk_lt h.struct
  · exact h.at_.lt
  · exact ownsRow_lt h.row hk
/-- A board's blocks have boards, tasks; the map's has no cells. -/
theorem BoardIn.kind (h : BoardIn w p m lv nvs b) {k : Nat} (hk : boardBlocks p m lv k) {t : TypeId} (hb : BlkOf w k t) : t = 83 ∨ t = 87 := by
  rcases hk with rfl | rfl | hk
  · by_cases e : t = 83
    · exact .inl e
    · exact absurd rfl (BlkOf.ne hb ⟨_, _, h.struct⟩ e)
  · exact absurd hb h.at_.notCells
  · by_cases e : t = 87
    · exact .inr e
    · exact absurd rfl (BlkOf.ne hb (ownsRow_blk h.row hk) e)
theorem BoardIn.nums (h : BoardIn w p m lv nvs b) {k : Nat} (hb : BlkOf w k 3) : ¬ boardBlocks p m lv k := fun hk => by
  have := h.kind hk hb
  revert this; decide
theorem BoardIn.upd (h : BoardIn w p m lv nvs b) (hu : Upd F w w') (hF : ∀ k, boardBlocks p m lv k → ¬ F k) (hN : ∀ k, BlkOf w k 3 → ¬ F k) : BoardIn w' p m lv nvs b :=
  ⟨(hu.block p (blk_lt h.struct) (hF p (.inl rfl))).trans h.struct, h.at_.upd hu (hF m (.inr (.inl rfl))), ownsRow_upd h.row hu (fun g hg => hF g (.inr (.inr hg))), h.nlen, fun i hi hi' => (h.needs i hi hi').upd hu hN⟩
end
end Go.Proofs.YtgmhglcdifhimaaDoor
