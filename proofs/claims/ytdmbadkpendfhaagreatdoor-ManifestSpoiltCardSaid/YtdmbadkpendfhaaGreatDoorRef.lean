/- How the document's disk (maslinref04) lies in memory. The document's disk: small methods; what is read. The document's disk: now. The document's disk: Fuse, Flush, Read. The document's disk: Read. The document's disk: Write. The document's disk: Write, walked. The document's disk: Write, every case. The document's disk: a row is copied; Copy. The document's disk: New. The document's disk: Crash. -/
import Derived.Test.YtdmbadkpendfhaaGreatDoorDiskF
import Derived.Test.YtdmbadkpendfhaaGreatDoorDiskFill
import Derived.Test.YtdmbadkpendfhaaGreatDoorCopies
import Derived.Deep.RegionHeld3
import Derived.Maps.AppendAt
import Derived.OneCell
import Derived.Laws.OwnMore
namespace Go.Proofs.YtdmbadkpendfhaaGreatDoor
open Go.RowKit Go.Maps

/-- Texts as cells. -/
@[irreducible] def strCells (l : List (List UInt8)) : List Value := l.map fun s => Value.string (bs s)
theorem strCells_length (l : List (List UInt8)) : (strCells l).length = l.length := by unfold strCells; simp
theorem strCells_get (l : List (List UInt8)) (i : Nat) (h : i < l.length) : (strCells l)[i]? = some (.string (bs l[i])) := by
  unfold strCells
  rw [List.getElem?_map, List.getElem?_eq_getElem h]; rfl
theorem strCells_snoc (l : List (List UInt8)) (s : List UInt8) : strCells (l ++ [s]) = strCells l ++ [.string (bs s)] := by unfold strCells; simp
theorem strCells_one (l : List (List UInt8)) : ∀ u ∈ strCells l, u.oneCell' = true := by
  intro u hu
  unfold strCells at hu
  obtain ⟨s, _, rfl⟩ := List.mem_map.1 hu
  rfl
theorem strCells_set (l : List (List UInt8)) (i : Nat) (s : List UInt8) : (strCells l).set i (.string (bs s)) = strCells (l.set i s) := by
  unfold strCells; rw [List.map_set]
/-- The document's loose writes as cells. -/
@[irreducible] def rputCells (l : List (Nat × List UInt8)) : List Value := l.flatMap fun p => [Value.int .i64 (p.1 : Int), .string (bs p.2)]
theorem rputCells_nil : rputCells [] = [] := by unfold rputCells; rfl
theorem rputCells_snoc (l : List (Nat × List UInt8)) (p : Nat × List UInt8) : rputCells (l ++ [p]) = rputCells l ++ [.int .i64 (p.1 : Int), .string (bs p.2)] := by unfold rputCells; simp
theorem rputCells_length (l : List (Nat × List UInt8)) : (rputCells l).length = l.length * 2 := by
  induction l with
  | nil => rw [rputCells_nil]; rfl
  | cons p l ih =>
    have e : rputCells (p :: l) = [Value.int .i64 (p.1 : Int), .string (bs p.2)] ++ rputCells l := by unfold rputCells; rfl
    rw [e, List.length_append, ih]; simp; omega
theorem rputCells_get (l : List (Nat × List UInt8)) (k : Nat) (hk : k < l.length) : (rputCells l)[k * 2]? = some (.int .i64 (l[k].1 : Int)) ∧ (rputCells l)[k * 2 + 1]? = some (.string (bs l[k].2)) := by
  induction l generalizing k with
  | nil => simp at hk
  | cons p l ih =>
    have e : rputCells (p :: l) = Value.int .i64 (p.1 : Int) :: .string (bs p.2) :: rputCells l := by unfold rputCells; rfl
    rw [e]
    cases k with
    | zero => exact ⟨rfl, rfl⟩
    | succ k =>
      have := ih k (by simpa using hk)
      rw [show (k + 1) * 2 = k * 2 + 1 + 1 by omega]
      simpa using this
theorem rputCells_one (l : List (Nat × List UInt8)) : ∀ u ∈ rputCells l, u.oneCell' = true := by
  intro u hu
  unfold rputCells at hu
  obtain ⟨p, _, h⟩ := List.mem_flatMap.1 hu
  simp at h
  rcases h with rfl | rfl <;> rfl

/-- The sectors, as texts. -/
def Dsk.rows (D : Dsk) : List (List UInt8) := (List.range D.n).map D.base
theorem Dsk.rows_length (D : Dsk) : D.rows.length = D.n := by simp [Dsk.rows]
theorem Dsk.rows_get (D : Dsk) (i : Nat) (h : i < D.rows.length) : D.rows[i] = D.base i := by simp [Dsk.rows]

def refBlocks (b : Nat) (bv lv : Value) (k : Nat) : Prop := k = b ∨ bv.ownBlock = some k ∨ lv.ownBlock = some k
/-- A block of texts. -/
def StrBlk (w : World) (k : Nat) : Prop := ∃ cs fr, w.heap[k]? = some (.cells cs 9 fr)
/-- Of a disk's blocks those that are written to: no texts. -/
def NoStr (w : World) (fp : Nat → Prop) (k : Nat) : Prop := fp k ∧ ¬ StrBlk w k
theorem Upd.noStr {fp fp1 : Nat → Prop} {w w1 w2 : World} (h : Upd (NoStr w fp) w w1) (k : Upd (NoStr w1 fp1) w1 w2) (hs : Stays fp fp1 w) : Upd (NoStr w fp) w w2 := h.trans k (fun i hi => by
  rcases hs i hi.1 with h1 | h1
  · by_cases hlt : i < w.heap.size
    · refine .inl ⟨h1, fun hs => hi.2 ?_⟩
      obtain ⟨cs, fr, e⟩ := hs
      exact ⟨cs, fr, (h.block i hlt (fun hn => hn.2 ⟨cs, fr, e⟩)).trans e⟩
    · exact .inr (by omega)
  · exact .inr h1)
end Go.Proofs.YtdmbadkpendfhaaGreatDoor

namespace Go.Proofs.YtdmbadkpendfhaaGreatDoor
open Go.RowKit Go.Maps

/-- The first N sectors, as texts. -/
def rowsN (f : Nat → List UInt8) (N : Nat) : List (List UInt8) := (List.range N).map f
theorem rowsN_length (f : Nat → List UInt8) (N : Nat) : (rowsN f N).length = N := by simp [rowsN]
theorem rowsN_get (f : Nat → List UInt8) (N i : Nat) (h : i < (rowsN f N).length) : (rowsN f N)[i] = f i := by simp [rowsN]
theorem rowsN_set (f : Nat → List UInt8) (N i : Nat) (x : List UInt8) : (rowsN f N).set i x = rowsN (fun k => if k = i then x else f k) N := by
  apply List.ext_getElem
  · simp [rowsN]
  · intro j h1 h2
    rw [List.getElem_set]
    simp only [rowsN, List.getElem_map, List.getElem_range]
    by_cases h : i = j
    · subst h; simp
    · rw [if_neg h, if_neg (fun e => h e.symm)]

end Go.Proofs.YtdmbadkpendfhaaGreatDoor

namespace Go.Proofs.YtdmbadkpendfhaaGreatDoor
open Go.RowKit Go.Maps

theorem str_info : (Tryz.prog.info? 9).map (fun i => (i.zero, i.size, i.bytes)) = some (some (.string ByteArray.empty), 1, 16) := by kernel_rfl
/-- A row of texts is copied: 'append([]string(nil), l...)'. -/
theorem strs_range {w : World} {base : Nat} {g n cap : Nat} {l : List (List UInt8)} (h : w.ownsRow base 9 1 (.slice (some ⟨g, 0, none⟩) n cap) n (strCells l)) : ∀ j u, (strCells l)[j]? = some u → w.cell? ((⟨g, 0, none⟩ : Addr).add j) = some u := h.cells (g := g) rfl


end Go.Proofs.YtdmbadkpendfhaaGreatDoor

namespace Go.Proofs.YtdmbadkpendfhaaGreatDoor
open Go.RowKit Go.Maps

end Go.Proofs.YtdmbadkpendfhaaGreatDoor

namespace Go.Proofs.YtdmbadkpendfhaaGreatDoor
open Go.RowKit Go.Maps

end Go.Proofs.YtdmbadkpendfhaaGreatDoor

namespace Go.Proofs.YtdmbadkpendfhaaGreatDoor
open Go.RowKit Go.Maps

theorem rput_one (i : Int) (s : List UInt8) : ∀ u ∈ [Value.int .i64 i, .string (bs s)], u.oneCell' = true := by
  intro u hu
  simp at hu
  rcases hu with rfl | rfl <;> rfl
end Go.Proofs.YtdmbadkpendfhaaGreatDoor

namespace Go.Proofs.YtdmbadkpendfhaaGreatDoor
open Go.RowKit Go.Maps

end Go.Proofs.YtdmbadkpendfhaaGreatDoor

namespace Go.Proofs.YtdmbadkpendfhaaGreatDoor
open Go.RowKit Go.Maps

end Go.Proofs.YtdmbadkpendfhaaGreatDoor

namespace Go.Proofs.YtdmbadkpendfhaaGreatDoor
open Go.RowKit Go.Maps



end Go.Proofs.YtdmbadkpendfhaaGreatDoor

namespace Go.Proofs.YtdmbadkpendfhaaGreatDoor
open Go.RowKit Go.Maps

theorem rowsN_snoc (f : Nat → List UInt8) (k : Nat) : rowsN f (k + 1) = rowsN f k ++ [f k] := by
  unfold rowsN
  rw [List.range_succ, List.map_append]
  rfl
theorem str_one (s : List UInt8) : ∀ u ∈ [Value.string (bs s)], u.oneCell' = true := by
  intro u hu
  simp at hu
  subst hu
  rfl

end Go.Proofs.YtdmbadkpendfhaaGreatDoor

namespace Go.Proofs.YtdmbadkpendfhaaGreatDoor
open Go.RowKit Go.Maps

theorem keptFrom_nil (i : Nat) (l : List (Nat × List UInt8)) : Dsk.keptFrom [] i l = [] := by
  induction l generalizing i with
  | nil => rfl
  | cons p l ih => simp only [Dsk.keptFrom, ih]; simp
theorem keptFrom_take (keep : List UInt8) (l : List (Nat × List UInt8)) (k : Nat) (h : k < l.length) : Dsk.keptFrom keep 0 (l.take (k + 1)) = Dsk.keptFrom keep 0 (l.take k) ++ (if stays keep k then [l[k]] else []) := by
  rw [← keptI_from, ← keptI_from, List.take_add_one, List.getElem?_eq_getElem h, keptI_append, List.length_take, Nat.min_eq_left (by omega)]
  simp [keptI]
end Go.Proofs.YtdmbadkpendfhaaGreatDoor
