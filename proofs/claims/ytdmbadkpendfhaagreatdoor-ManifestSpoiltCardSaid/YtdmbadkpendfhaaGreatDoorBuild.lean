/- Values that are put together out of parts that are not written out: 'T{a, b}', '[]T{x}'. -/
import Derived.Test.YtdmbadkpendfhaaGreatDoorBase
namespace Go.Proofs.YtdmbadkpendfhaaGreatDoor

theorem fold_get (off : Nat) : ∀ (l : List Value) (k : Nat) (cs : Array Value) (i : Nat), off + k + l.length ≤ cs.size →
    ((l.zipIdx k).foldl (fun cs (p : Value × Nat) => cs.setIfInBounds (off + p.2) p.1) cs)[i]? = if off + k ≤ i ∧ i < off + k + l.length then l[i - (off + k)]? else cs[i]?
  | [], k, cs, i, _ => by simp; intro h1 h2; omega
  | v :: l, k, cs, i, h => by
    simp only [List.length_cons] at h
    rw [List.zipIdx_cons, List.foldl_cons, fold_get off l (k + 1) _ i (by simp; omega)]
    simp only [List.length_cons]
    by_cases h1 : off + (k + 1) ≤ i ∧ i < off + (k + 1) + l.length
    · rw [if_pos h1, if_pos (by omega), show i - (off + k) = (i - (off + (k + 1))) + 1 by omega, List.getElem?_cons_succ]
    · rw [if_neg h1, Array.getElem?_setIfInBounds]
      by_cases h2 : off + k = i
      · rw [if_pos h2, if_pos (by omega), if_pos (by omega), show i - (off + k) = 0 by omega]
        rfl
      · rw [if_neg h2, if_neg (by omega)]

/-- The parts lie one behind the other. -/
def Consec (place : Nat → Option (Nat × Nat)) : Nat → List (Nat × Value) → Prop
  | _, [] => True
  | off, (i, v) :: rest => place i = some (off, v.cells.size) ∧ Consec place (off + v.cells.size) rest

theorem fill_consec (place : Nat → Option (Nat × Nat)) : ∀ (parts : List (Nat × Value)) (off : Nat) (cells : Array Value), Consec place off parts → off + (parts.flatMap (·.2.cells.toList)).length = cells.size →
    Instr.fill place cells parts = some (cells.toList.take off ++ parts.flatMap (·.2.cells.toList)).toArray
  | [], off, cells, _, h => by
    simp at h
    simp [Instr.fill]
    rw [List.take_of_length_le (by simp; omega)]
  | (i, v) :: rest, off, cells, hc, h => by
    obtain ⟨h1, h2⟩ := hc
    simp only [List.flatMap_cons, List.length_append, Array.length_toList] at h
    have hlen := fold_get off v.cells.toList 0 cells
    have e0 : v.cells.zipIdx.foldl (fun cs (p : Value × Nat) => cs.setIfInBounds (off + p.2) p.1) cells = (v.cells.toList.zipIdx 0).foldl (fun cs (p : Value × Nat) => cs.setIfInBounds (off + p.2) p.1) cells := by
      rw [← Array.foldl_toList, Array.toList_zipIdx]
    have e1 : v.cells.zipIdx.foldl (fun cs (p : Value × Nat) => cs.setIfInBounds (off + p.2) p.1) cells = (cells.toList.take off ++ v.cells.toList ++ cells.toList.drop (off + v.cells.size)).toArray := by
      rw [e0]
      apply Array.ext_getElem?
      intro j
      rw [hlen j (by simp; omega)]
      have eR : ∀ X : List Value, X.toArray[j]? = X[j]? := fun X => List.getElem?_toArray
      have eC : cells[j]? = cells.toList[j]? := Array.getElem?_toList.symm
      rw [eC, eR (cells.toList.take off ++ v.cells.toList ++ cells.toList.drop (off + v.cells.size))]
      simp only [Nat.add_zero, Array.length_toList]
      by_cases a1 : j < off
      · rw [if_neg (by omega), List.append_assoc, List.getElem?_append_left (by simp; omega), List.getElem?_take, if_pos a1]
      · by_cases a2 : j < off + v.cells.size
        · rw [if_pos (by omega), List.append_assoc, List.getElem?_append_right (by simp; omega), List.getElem?_append_left (by simp; omega)]
          simp [Nat.min_eq_left (show off ≤ cells.size by omega)]
        · rw [if_neg (by omega), List.getElem?_append_right (by simp; omega), List.getElem?_drop]
          simp only [List.length_append, List.length_take, Array.length_toList, Nat.min_eq_left (show off ≤ cells.size by omega)]
          congr 1
          omega
    have e2 := fill_consec place rest (off + v.cells.size) (cells.toList.take off ++ v.cells.toList ++ cells.toList.drop (off + v.cells.size)).toArray h2 (by generalize (rest.flatMap (fun (x : Nat × Value) => x.2.cells.toList)).length = F at h ⊢; simp; omega)
    unfold Instr.fill
    rw [h1]
    simp only [ne_eq, decide_not, Bool.or_eq_true, Bool.not_eq_eq_eq_not, Bool.not_true, decide_eq_false_iff_not, decide_eq_true_eq]
    rw [if_neg (by simp; omega)]
    rw [show (fun cs (x : Value × Nat) => match x with | (c, j) => cs.setIfInBounds (off + j) c) = (fun (cs : Array Value) (p : Value × Nat) => cs.setIfInBounds (off + p.2) p.1) from rfl, e1, e2]
    congr 2
    rw [List.take_append_of_le_length (by simp; omega), List.take_of_length_le (by simp; omega)]
    simp

/-- 'T{a, b, ..}', all fields given. -/
theorem run_build_struct (P : Program) (W : World) (T : TypeId) (fields : Array Field) (z : Value) (places : List (Nat × Nat)) (hu : P.underlying T = some (.struct fields)) (hz : (P.info? T).map (·.zero) = some (some z))
    (hp : fields.toList.mapM (fun f => (P.info? f.type).map fun i => (f.offset, i.size)) = some places) (parts : Array (Nat × Value)) (hc : Consec (places.toArray[·]?) 0 parts.toList)
    (hlen : (parts.toList.flatMap (·.2.cells.toList)).length = z.cells.size) :
    (Instr.build T parts).run P W = .ok (.agg (parts.toList.flatMap (·.2.cells.toList)).toArray) W := by
  refine run_build W T parts _ ?_
  unfold Program.built
  cases hq : P.info? T with
  | none => simp [hq] at hz
  | some it =>
    have h1 : it.zero = some z := by simpa [hq] using hz
    simp only [hu, h1, hp]
    rw [fill_consec _ _ 0 _ hc (by omega)]
    simp

/-- '[]T{x}' -/
theorem run_buildSlice_one (P : Program) (W : World) (T E : TypeId) (s : Nat) (z : Value) (hu : P.underlying T = some (.slice E)) (hi : (P.info? E).map (fun i => (i.zero, i.size)) = some (some z, s)) (v : Value) (hv : v.cells.size = s) (h0 : s ≠ 0) (h24 : s ≤ 16777216) :
    (Instr.buildSlice T 1 #[(0, v)]).run P W = .ok (.slice (some ⟨W.heap.size, 0, none⟩) 1 1) (W.alloc (.cells v.cells E)) := by
  cases hq : P.info? E with
  | none => simp [hq] at hi
  | some it =>
    simp [hq] at hi
    obtain ⟨hz, hs⟩ := hi
    have hf := fill_consec (fun i => some (i * s, s)) [(0, v)] 0 ((Array.range (1 * s)).map (z.cells[· % z.cells.size]!)) ⟨by simp [hv], trivial⟩ (by simp [hv])
    simp at hf
    have h24' : ¬ 16777216 < s := by omega
    simp [Instr.buildSlice, run_underlying hu, sizeOf, typeInfo, zeroValue, hq, hz, hs, h0, h24', hf, newRow]

/-- What the walk makes of a part laid over zeros: at an offset. -/
theorem foldl_lay (off n : Nat) (v cs : Array Value) (hv : v.size = n) (hl : off + n = cs.size) :
    Array.foldl (fun cs (x : Value × Nat) => cs.setIfInBounds (off + x.snd) x.fst) cs v.zipIdx 0 n = (cs.toList.take off ++ v.toList).toArray := by
  have e0 : Array.foldl (fun cs (x : Value × Nat) => cs.setIfInBounds (off + x.snd) x.fst) cs v.zipIdx 0 n = (v.toList.zipIdx 0).foldl (fun cs (p : Value × Nat) => cs.setIfInBounds (off + p.2) p.1) cs := by
    have hz : v.zipIdx.size = n := by simp [hv]
    rw [← Array.toList_zipIdx, Array.foldl_toList, hz]
  rw [e0]
  apply Array.ext_getElem?
  intro j
  rw [fold_get off v.toList 0 cs j (by simp; omega)]
  have eR : ∀ X : List Value, X.toArray[j]? = X[j]? := fun X => List.getElem?_toArray
  have eC : cs[j]? = cs.toList[j]? := Array.getElem?_toList.symm
  rw [eC, eR (cs.toList.take off ++ v.toList)]
  simp only [Nat.add_zero, Array.length_toList]
  by_cases a1 : j < off
  · rw [if_neg (by omega), List.getElem?_append_left (by simp; omega), List.getElem?_take, if_pos a1]
  · rw [List.getElem?_append_right (by simp; omega)]
    simp only [List.length_take, Array.length_toList, Nat.min_eq_left (show off ≤ cs.size by omega)]
    by_cases a2 : j < off + v.size
    · rw [if_pos (by omega)]
    · rw [if_neg (by omega), List.getElem?_eq_none (by simp; omega), List.getElem?_eq_none (by simp; omega)]
theorem foldl_all (n : Nat) (v cs : Array Value) (hv : v.size = n) (hl : cs.size = n) :
    Array.foldl (fun cs (x : Value × Nat) => cs.setIfInBounds x.snd x.fst) cs v.zipIdx 0 n = v := by
  have h := foldl_lay 0 n v cs hv (by omega)
  simp only [Nat.zero_add] at h
  rw [h]
  simp
end Go.Proofs.YtdmbadkpendfhaaGreatDoor
