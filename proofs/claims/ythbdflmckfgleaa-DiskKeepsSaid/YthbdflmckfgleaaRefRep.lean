/- How the document's disk (maslinref04) lies in memory. -/
import Derived.Test.YthbdflmckfgleaaDiskFlush
namespace Go.Proofs.Ythbdflmckfgleaa
open Go.RowKit Go.Maps

/-- Texts as cells. -/
@[irreducible] def strCells (l : List (List UInt8)) : List Value := l.map fun s => Value.string (bs s)
theorem strCells_length (l : List (List UInt8)) : (strCells l).length = l.length := by unfold strCells; simp
theorem strCells_get (l : List (List UInt8)) (i : Nat) (h : i < l.length) : (strCells l)[i]? = some (.string (bs l[i])) := by
  unfold strCells
  rw [List.getElem?_map, List.getElem?_eq_getElem h]; rfl
theorem strCells_snoc (l : List (List UInt8)) (s : List UInt8) : strCells (l ++ [s]) = strCells l ++ [.string (bs s)] := by unfold strCells; simp
theorem strCells_one (l : List (List UInt8)) : ∀ u ∈ strCells l, u.oneCell' = true := by
  intro u hu
  unfold strCells at hu
  obtain ⟨s, _, rfl⟩ := List.mem_map.1 hu
  rfl
theorem strCells_set (l : List (List UInt8)) (i : Nat) (s : List UInt8) : (strCells l).set i (.string (bs s)) = strCells (l.set i s) := by
  unfold strCells; rw [List.map_set]
/-- The document's loose writes as cells. -/
@[irreducible] def rputCells (l : List (Nat × List UInt8)) : List Value := l.flatMap fun p => [Value.int .i64 (p.1 : Int), .string (bs p.2)]
theorem rputCells_nil : rputCells [] = [] := by unfold rputCells; rfl
theorem rputCells_snoc (l : List (Nat × List UInt8)) (p : Nat × List UInt8) : rputCells (l ++ [p]) = rputCells l ++ [.int .i64 (p.1 : Int), .string (bs p.2)] := by unfold rputCells; simp
theorem rputCells_length (l : List (Nat × List UInt8)) : (rputCells l).length = l.length * 2 := by
  induction l with
  | nil => rw [rputCells_nil]; rfl
  | cons p l ih =>
    have e : rputCells (p :: l) = [Value.int .i64 (p.1 : Int), .string (bs p.2)] ++ rputCells l := by unfold rputCells; rfl
    rw [e, List.length_append, ih]; simp; omega
theorem rputCells_get (l : List (Nat × List UInt8)) (k : Nat) (hk : k < l.length) : (rputCells l)[k * 2]? = some (.int .i64 (l[k].1 : Int)) ∧ (rputCells l)[k * 2 + 1]? = some (.string (bs l[k].2)) := by
  induction l generalizing k with
  | nil => simp at hk
  | cons p l ih =>
    have e : rputCells (p :: l) = Value.int .i64 (p.1 : Int) :: .string (bs p.2) :: rputCells l := by unfold rputCells; rfl
    rw [e]
    cases k with
    | zero => exact ⟨rfl, rfl⟩
    | succ k =>
      have := ih k (by simpa using hk)
      rw [show (k + 1) * 2 = k * 2 + 1 + 1 by omega]
      simpa using this
theorem rputCells_one (l : List (Nat × List UInt8)) : ∀ u ∈ rputCells l, u.oneCell' = true := by
  intro u hu
  unfold rputCells at hu
  obtain ⟨p, _, h⟩ := List.mem_flatMap.1 hu
  simp at h
  rcases h with rfl | rfl <;> rfl

/-- The sectors, as texts. -/
def Dsk.rows (D : Dsk) : List (List UInt8) := (List.range D.n).map D.base
theorem Dsk.rows_length (D : Dsk) : D.rows.length = D.n := by simp [Dsk.rows]
theorem Dsk.rows_get (D : Dsk) (i : Nat) (h : i < D.rows.length) : D.rows[i] = D.base i := by simp [Dsk.rows]

/-- The document's disk in memory. -/
structure RefIn (w : World) (b : Nat) (bv lv : Value) (D : Dsk) : Prop where
  struct : w.heap[b]? = some (.cells #[bv, lv, .int .i64 D.left, .bool D.down] 119)
  base : w.ownsRow 0 9 1 bv D.n (strCells D.rows)
  loose : w.ownsRow 0 123 2 lv D.loose.length (rputCells D.loose)
  bb : bv.ownBlock ≠ some b
  lb : lv.ownBlock ≠ some b
  bl : ∀ g, bv.ownBlock = some g → lv.ownBlock ≠ some g
  fine : D.Fine
def refBlocks (b : Nat) (bv lv : Value) (k : Nat) : Prop := k = b ∨ bv.ownBlock = some k ∨ lv.ownBlock = some k
theorem RefIn.upd {F : Nat → Prop} {w w' : World} {b : Nat} {bv lv : Value} {D : Dsk} (h : RefIn w b bv lv D) (hu : Upd F w w') (hF : ∀ k, refBlocks b bv lv k → ¬ F k) : RefIn w' b bv lv D :=
  ⟨by rw [hu.block b (Array.getElem?_eq_some_iff.1 h.struct).1 (hF b (.inl rfl))]; exact h.struct, ownsRow_upd h.base hu (fun g hg => hF g (.inr (.inl hg))), ownsRow_upd h.loose hu (fun g hg => hF g (.inr (.inr hg))), h.bb, h.lb, h.bl, h.fine⟩
theorem RefIn.below {w w' : World} {b : Nat} {bv lv : Value} {D : Dsk} (h : RefIn w b bv lv D) (hb : Below w.heap.size w w') : RefIn w' b bv lv D := h.upd (Upd.of_below (F := fun _ => False) hb) (fun _ _ f => f)
theorem RefIn.cells {w : World} {b : Nat} {bv lv : Value} {D : Dsk} (h : RefIn w b bv lv D) :
    w.cell? ⟨b, 0, none⟩ = some bv ∧ w.cell? ⟨b, 1, none⟩ = some lv ∧ w.cell? ⟨b, 2, none⟩ = some (.int .i64 D.left) ∧ w.cell? ⟨b, 3, none⟩ = some (.bool D.down) ∧ ∀ j, w.frozen? ⟨b, j, none⟩ = false := by
  refine ⟨?_, ?_, ?_, ?_, fun j => frozen_of_row w b j _ _ h.struct⟩ <;> rw [cell_of_row w b _ _ _ _ h.struct] <;> rfl
theorem RefIn.lt {w : World} {b : Nat} {bv lv : Value} {D : Dsk} (h : RefIn w b bv lv D) : ∀ k, refBlocks b bv lv k → k < w.heap.size := by
  rintro k (rfl | hk | hk)
  · exact (Array.getElem?_eq_some_iff.1 h.struct).1
  · exact ownsRow_lt h.base hk
  · exact ownsRow_lt h.loose hk
end Go.Proofs.Ythbdflmckfgleaa
