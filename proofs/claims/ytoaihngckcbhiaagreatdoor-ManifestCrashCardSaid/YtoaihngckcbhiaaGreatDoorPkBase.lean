/- Base Reads Build -/
import Derived.Test.YtoaihngckcbhiaaGreatDoorChecked
import Derived.WalkKit
import Derived.Deep.WholeRow
import Derived.Lib.Hide
import Derived.SliceStrings
import Derived.ProofKit
import Derived.SizedLaws
import Derived.Deep.MidRow
section
namespace Go.Proofs.YtoaihngckcbhiaaGreatDoor
open Go.RowKit
def bs (l : List UInt8) : ByteArray := ⟨l.toArray⟩
@[simp] theorem bs_size (l : List UInt8) : (bs l).size = l.length := rfl
@[simp] theorem bs_data (l : List UInt8) : (bs l).data = l.toArray := rfl
@[simp] theorem bs_append (l k : List UInt8) : bs l ++ bs k = bs (l ++ k) := by
  apply ByteArray.ext
  simp [ByteArray.data_append]
theorem bs_lt {l : List UInt8} {i : Nat} (h : i < (bs l).size) : i < l.length := h
@[simp] theorem bs_getElem (l : List UInt8) (i : Nat) (h : i < (bs l).size) : (bs l)[i] = l[i]'(bs_lt h) := rfl
theorem bs_inj {l k : List UInt8} : bs l = bs k ↔ l = k := by
  constructor
  · intro h
    have := congrArg (fun s => s.data.toList) h
    simpa using this
  · rintro rfl; rfl
@[simp] theorem bs_extract (l : List UInt8) (a b : Nat) : (bs l).extract a b = bs ((l.take b).drop a) := by
  apply ByteArray.ext
  simp [ByteArray.data_extract]
  apply List.ext_getElem?
  intro i
  simp [List.getElem?_take, List.getElem?_drop]
  by_cases h : i < b - a
  · simp [h, show a + i < b by omega]
  · simp [h, show ¬ a + i < b by omega]
@[simp] theorem bs_toList (l : List UInt8) : (bs l).toList = l := ByteArray.toList_mk l
theorem ret_int {k : IntKind} {a b : Int} (h : a = b) : Ending.returned (.int k a) = .returned (.int k b) := by rw [h]
theorem take_snoc (l : List UInt8) (k : Nat) (h : k < l.length) : l.take (k + 1) = l.take k ++ [l[k]] := List.take_succ_eq_append_getElem h
@[irreducible] def u8row (k : List UInt8) : Array Value := (k.map fun b => Value.int .u8 (b.toNat : Int)).toArray
@[simp] theorem u8row_size (k : List UInt8) : (u8row k).size = k.length := by unfold u8row; simp
theorem u8row_get (k : List UInt8) (i : Nat) (h : i < k.length) : (u8row k)[i]? = some (.int .u8 (k[i].toNat : Int)) := by
  unfold u8row
  rw [List.getElem?_toArray, List.getElem?_map, List.getElem?_eq_getElem h]; rfl
theorem u8row_set (k : List UInt8) (i : Nat) (b : UInt8) : (u8row k).setIfInBounds i (.int .u8 (b.toNat : Int)) = u8row (k.set i b) := by
  unfold u8row
  rw [List.map_set, List.setIfInBounds_toArray]
theorem u8row_one (k : List UInt8) : (u8row k).all (·.oneCell') = true := by
  unfold u8row
  rw [Array.all_eq_true]
  intro i hi
  simp at hi ⊢
  rfl
theorem u8_ofNat (n : Nat) : (UInt8.ofNat n).toNat = n % 256 := rfl
theorem run_bytes_bs (P : Program) (w : World) (src e dst : TypeId) (hs : P.underlying src = some (.slice e)) (he : P.underlying e = some (.int .u8)) (hd : P.underlying dst = some .string)
    (b off len cap : Nat) (k : List UInt8) (hlen : k.length = len) (hcell : ∀ i, (h : i < k.length) → w.cell? ⟨b, off + i, none⟩ = some (.int .u8 (k[i].toNat : Int))) :
    (convert src dst (.slice (some ⟨b, off, none⟩) len cap)).run P w = .ok (.string (bs k)) w := by
  have h := run_convert_bytes_arg (P := P) w src e hs he b off len cap (k.map fun x => (x.toNat : Int)) (by simpa using hlen) (fun i hi => by
    rw [hcell i (by omega)]
    simp [List.getD_eq_getElem?_getD, List.getElem?_eq_getElem (show i < k.length by omega)]) dst hd
  rw [h]
  congr 2
  apply ByteArray.ext
  apply Array.ext'
  rw [strOfNums_data]
  simp [bs, Function.comp_def]
theorem run_slice_arr (P : Program) (w : World) (t e : TypeId) (N n b : Nat) (hu : P.underlying t = some (.array N e)) (hs : (P.info? e).map (·.size) = some 1) (hn : n ≤ N) :
    (Instr.sliceAt t (.pointer (some ⟨b, 0, none⟩)) none (some (.int .i64 (n : Int))) none).run P w = .ok (.slice (some ⟨b, 0, none⟩) n N) w := by
  cases hq : P.info? e with
  | none => simp [hq] at hs
  | some i =>
    simp [Instr.sliceAt, Instr.sureAddr, run_underlying hu, Instr.sliceBounds, run_sliceBound, sizeOf, typeInfo, hq, go_sem, hn]
theorem run_slice_arr_all (P : Program) (w : World) (t e : TypeId) (N b : Nat) (hu : P.underlying t = some (.array N e)) (hs : (P.info? e).map (·.size) = some 1) :
    (Instr.sliceAt t (.pointer (some ⟨b, 0, none⟩)) none none none).run P w = .ok (.slice (some ⟨b, 0, none⟩) N N) w := by
  cases hq : P.info? e with
  | none => simp [hq] at hs
  | some i =>
    simp [Instr.sliceAt, Instr.sureAddr, run_underlying hu, Instr.sliceBounds, sizeOf, typeInfo, hq, go_sem]
theorem cell_new_row (w : World) (c : Array Value) (T : TypeId) (i : Nat) : (w.alloc (.cells c T)).cell? ⟨w.heap.size, i, none⟩ = c[i]? :=
  cell_of_row _ _ i c T (0, 0) (heap_alloc_last w _)
theorem run_byte_bs (P : Program) (w : World) (src e dst T : TypeId) (hs : P.underlying src = some (.slice e)) (he : P.underlying e = some (.int .u8)) (hd : P.underlying dst = some .string)
    (x : Int) (b : UInt8) (hx : x = (b.toNat : Int)) :
    (convert src dst (.slice (some ⟨w.heap.size, 0, none⟩) 1 1)).run P (w.alloc (.cells #[.int .u8 x] T)) = .ok (.string (bs [b])) (w.alloc (.cells #[.int .u8 x] T)) := by
  subst hx
  refine run_bytes_bs P _ src e dst hs he hd _ 0 1 1 [b] rfl (fun i hi => ?_)
  rw [Nat.zero_add, cell_new_row]
  obtain rfl : i = 0 := by simpa using hi
  rfl
end Go.Proofs.YtoaihngckcbhiaaGreatDoor
end
section
namespace Go.Proofs.YtoaihngckcbhiaaGreatDoor
open Go.RowKit Go.WideShapes Go.ChangeShapes
theorem run_index_slice (P : Program) (T E : TypeId) (hu : P.underlying T = some (.slice E)) (s : Nat) (hs : (P.info? E).map (·.size) = some s) (p : Addr) (n cap k : Nat) (hk : k < n) (W : World) :
    (Instr.indexAt T (.slice (some p) n cap) (.int .i64 (k : Int))).run P W = .ok (.pointer (some (p.add (k * s)))) W := by
  cases hq : P.info? E with
  | none => simp [hq] at hs
  | some i =>
    have h1 : i.size = s := by simpa [hq] using hs
    simp [Instr.indexAt, run_underlying hu, asIntOf, sizeOf, typeInfo, hq, h1, hk]
def BytesAt (w : World) (b : Nat) (l : List UInt8) : Prop :=
  ∃ C e fr, w.heap[b]? = some (.cells C e fr) ∧ (∀ i, (h : i < l.length) → C[i]? = some (.int .u8 (l[i].toNat : Int))) ∧ (l.length ≤ fr.1 ∨ fr = (0, 0))
theorem BytesAt.cell {w : World} {b : Nat} {l : List UInt8} (h : BytesAt w b l) (i : Nat) (hi : i < l.length) : w.cell? ⟨b, i, none⟩ = some (.int .u8 (l[i].toNat : Int)) := by
  obtain ⟨C, e, fr, hb, hc, _⟩ := h
  rw [cell_of_row w b i C e fr hb]
  exact hc i hi
theorem BytesAt.free {w : World} {b : Nat} {l : List UInt8} (h : BytesAt w b l) (i : Nat) (hi : i < l.length) : w.frozen? ⟨b, i, none⟩ = false := by
  obtain ⟨C, e, ⟨f1, f2⟩, hb, _, hf⟩ := h
  simp only [Prod.mk.injEq] at hf
  simp [World.frozen?, hb]
  omega
theorem BytesAt.set {w : World} {b : Nat} {l : List UInt8} (h : BytesAt w b l) (i : Nat) (x : UInt8) : BytesAt (w.setCell ⟨b, i, none⟩ (.int .u8 (x.toNat : Int))) b (l.set i x) := by
  obtain ⟨C, e, fr, hb, hc, hf⟩ := h
  refine ⟨C.setIfInBounds i (.int .u8 (x.toNat : Int)), e, fr, ?_, fun j hj => ?_, by simpa using hf⟩
  · rw [setCell_eq_setRow w b i C e fr _ hb]
    exact setRow_heap w b C _ e fr hb
  · simp only [List.length_set] at hj
    rw [Array.getElem?_setIfInBounds]
    have hcs : j < C.size := by
      have := hc j hj
      exact (Array.getElem?_eq_some_iff.1 this).1
    by_cases e1 : i = j
    · subst e1; simp [hcs]
    · rw [if_neg e1, hc j hj, List.getElem_set_ne e1]
theorem BytesAt.lt {w : World} {b : Nat} {l : List UInt8} (h : BytesAt w b l) : b < w.heap.size := by
  obtain ⟨C, e, fr, hb, _⟩ := h
  exact (Array.getElem?_eq_some_iff.1 hb).1
theorem BytesAt.below {w w' : World} {b : Nat} {l : List UInt8} (h : BytesAt w b l) (hb : Below w.heap.size w w') : BytesAt w' b l := by
  have hlt := h.lt
  obtain ⟨C, e, fr, h1, h2⟩ := h
  exact ⟨C, e, fr, by rw [hb.block b hlt]; exact h1, h2⟩
theorem bytes_new (w : World) (l : List UInt8) (e : TypeId) : BytesAt (w.drew.alloc (.cells (bytesRow (bs l) (grownCap w l.length 0 e)) e ((bytesRow (bs l) (grownCap w l.length 0 e)).size, (bytesRow (bs l) (grownCap w l.length 0 e)).size + 1))) w.heap.size l := by
  refine ⟨_, _, _, heap_alloc_last w.drew _, fun i hi => ?_, ?_⟩
  · exact bytesRow_at (bs l) _ i (by simpa using hi)
  · left; simp [bytesRow]
@[irreducible] def u8cells (k : List UInt8) : List Value := (u8row k).toList
theorem u8cells_length (k : List UInt8) : (u8cells k).length = k.length := by unfold u8cells; simp
theorem u8cells_array (k : List UInt8) : (u8cells k).toArray = u8row k := by unfold u8cells; simp
theorem u8row_list (k : List UInt8) : (u8row k).toList = u8cells k := by unfold u8cells; rfl
theorem u8cells_get (k : List UInt8) (i : Nat) (h : i < k.length) : (u8cells k)[i]? = some (.int .u8 (k[i].toNat : Int)) := by
  unfold u8cells
  rw [Array.getElem?_toList, u8row_get k i h]
theorem u8cells_one (k : List UInt8) : ∀ u ∈ u8cells k, u.oneCell' = true := by
  unfold u8cells
  intro u hu
  exact (Array.all_eq_true_iff_forall_mem.1 (u8row_one k)) u (by simpa using hu)
theorem u8cells_cons (x : UInt8) (k : List UInt8) : u8cells (x :: k) = .int .u8 (x.toNat : Int) :: u8cells k := by unfold u8cells u8row; simp
theorem u8cells_nil : u8cells [] = [] := by unfold u8cells u8row; simp
theorem u8cells_append (a b : List UInt8) : u8cells (a ++ b) = u8cells a ++ u8cells b := by unfold u8cells u8row; simp
theorem BytesAt.seg {b : Nat} (x : List UInt8) : ∀ {w : World} {q : List UInt8} (o : Nat), BytesAt w b q → o + x.length ≤ q.length → BytesAt (w.setCells b o (u8cells x)) b (q.take o ++ x ++ q.drop (o + x.length)) := by
  induction x with
  | nil =>
    intro w q o h _
    rw [u8cells_nil]
    simpa [World.setCells] using h
  | cons a x ih =>
    intro w q o h hl
    simp only [List.length_cons] at hl
    have h1 := ih (o + 1) (h.set o a) (by rw [List.length_set]; omega)
    rw [u8cells_cons]
    simp only [World.setCells]
    have e : (q.set o a).take (o + 1) ++ x ++ (q.set o a).drop (o + 1 + x.length) = q.take o ++ a :: x ++ q.drop (o + (a :: x).length) := by
      have e1 : (q.set o a).take (o + 1) = q.take o ++ [a] := by
        rw [List.take_succ_eq_append_getElem (by rw [List.length_set]; omega), List.getElem_set_self, List.take_set_of_le (Nat.le_refl _)]
      have e2 : (q.set o a).drop (o + 1 + x.length) = q.drop (o + (a :: x).length) := by
        rw [List.drop_set_of_lt (by omega), List.length_cons, show o + 1 + x.length = o + (x.length + 1) by omega]
      rw [e1, e2]
      simp
    rw [← e]
    exact h1
theorem BytesAt.range {w : World} {b : Nat} {q : List UInt8} (h : BytesAt w b q) (o n : Nat) (hl : o + n ≤ q.length) : w.rangeAt b o (u8cells ((q.drop o).take n)) := by
  intro j v hv
  have hj := (List.getElem?_eq_some_iff.1 hv).1
  rw [u8cells_length] at hj
  rw [u8cells_get _ j hj] at hv
  have hj2 : j < n := by rw [List.length_take] at hj; omega
  rw [h.cell (o + j) (by omega), ← hv]
  simp [List.getElem_take, List.getElem_drop]
theorem BytesAt.there {w : World} {b : Nat} {q : List UInt8} (h : BytesAt w b q) (o n : Nat) (hl : o + n ≤ q.length) : w.there b o n := fun j hj => ⟨by rw [h.cell (o + j) (by omega)]; rfl, h.free (o + j) (by omega)⟩
theorem bytes_row_new (w : World) (c : Array Value) (T : TypeId) (q : List UInt8) (hc : ∀ i, (h : i < q.length) → c[i]? = some (.int .u8 (q[i].toNat : Int))) : BytesAt (w.alloc (.cells c T)) w.heap.size q :=
  ⟨c, T, (0, 0), heap_alloc_last w _, hc, .inr rfl⟩
theorem BytesAt.store {w : World} {b : Nat} {q : List UInt8} (h : BytesAt w b q) (P : Program) (o : Nat) (x : List UInt8) (hl : o + x.length ≤ q.length) :
    (storeCells ⟨b, o, none⟩ (u8row x).toList).run P w = .ok () (w.setCells b o (u8cells x)) := by
  have ht := h.there o x.length hl
  have := run_storeCells_cells (P := P) b o (u8cells x) 0 w (fun j hj => by rw [u8cells_length] at hj; simpa using (ht j hj).1) (fun j hj => by rw [u8cells_length] at hj; simpa using (ht j hj).2) (u8cells_one x)
  rw [u8row_list]
  simpa using this
theorem upd_setCells (b : Nat) : ∀ (vs : List Value) (o : Nat) (w : World), (w.setCells b o vs).heap.size = w.heap.size ∧ (w.setCells b o vs).os = w.os ∧ (w.setCells b o vs).tape = w.tape ∧ (w.setCells b o vs).output = w.output ∧ ∀ k, k ≠ b → (w.setCells b o vs).heap[k]? = w.heap[k]?
  | [], _, _ => ⟨rfl, rfl, rfl, rfl, fun _ _ => rfl⟩
  | v :: r, o, w => by
    obtain ⟨h1, h2, h3, h4, h5⟩ := upd_setCells b r (o + 1) (w.setCell ⟨b, o, none⟩ v)
    exact ⟨h1.trans (by simp [World.setCell]), h2, h3, h4, fun k hk => (h5 k hk).trans (Below.heap_setCell _ _ _ _ hk)⟩
theorem below_setCells {B : Nat} {a w : World} (h : Below B a w) {b : Nat} (hb : B ≤ b) (o : Nat) (vs : List Value) : Below B a (w.setCells b o vs) := by
  obtain ⟨h1, h2, h3, h4, h5⟩ := upd_setCells b vs o w
  exact h.trans ⟨h2, h3, h4, by omega, fun k hk => h5 k (by omega)⟩
theorem conv_bytes (P : Program) (src dst e : TypeId) (hs : P.underlying src = some .string) (hd : P.underlying dst = some (.slice e)) (he : P.underlying e = some (.int .u8)) (w : World) (x : List UInt8) :
    ∃ (w1 : World) (cap : Nat), (convert src dst (.string (bs x))).run P w = .ok (.slice (some ⟨w.heap.size, 0, none⟩) x.length cap) w1 ∧ BytesAt w1 w.heap.size x ∧ Below w.heap.size w w1 ∧ w1.heap.size = w.heap.size + 1 := by
  have h := run_bytes_of_string (P := P) w src dst e (bs x) hs hd he
  exact ⟨_, _, h, bytes_new w x e, (Below.refl _ _).drew.alloc (Nat.le_refl _) _, by simp⟩
theorem run_arrayAt (P : Program) (W : World) (T E : TypeId) (N : Nat) (a : Option Addr) (n c : Nat) (hu : P.underlying T = some (.array N E)) (hn : N ≤ n) : (Instr.arrayAt T (.slice a n c)).run P W = .ok (.pointer a) W := by
  simp [Instr.arrayAt, run_underlying hu, show ¬ n < N by omega]
end Go.Proofs.YtoaihngckcbhiaaGreatDoor
end
section
namespace Go.Proofs.YtoaihngckcbhiaaGreatDoor
theorem fold_get (off : Nat) : ∀ (l : List Value) (k : Nat) (cs : Array Value) (i : Nat), off + k + l.length ≤ cs.size →
    ((l.zipIdx k).foldl (fun cs (p : Value × Nat) => cs.setIfInBounds (off + p.2) p.1) cs)[i]? = if off + k ≤ i ∧ i < off + k + l.length then l[i - (off + k)]? else cs[i]?
  | [], k, cs, i, _ => by simp; intro h1 h2; omega
  | v :: l, k, cs, i, h => by
    simp only [List.length_cons] at h
    rw [List.zipIdx_cons, List.foldl_cons, fold_get off l (k + 1) _ i (by simp; omega)]
    simp only [List.length_cons]
    by_cases h1 : off + (k + 1) ≤ i ∧ i < off + (k + 1) + l.length
    · rw [if_pos h1, if_pos (by omega), show i - (off + k) = (i - (off + (k + 1))) + 1 by omega, List.getElem?_cons_succ]
    · rw [if_neg h1, Array.getElem?_setIfInBounds]
      by_cases h2 : off + k = i
      · rw [if_pos h2, if_pos (by omega), if_pos (by omega), show i - (off + k) = 0 by omega]
        rfl
      · rw [if_neg h2, if_neg (by omega)]
theorem foldl_lay (off n : Nat) (v cs : Array Value) (hv : v.size = n) (hl : off + n = cs.size) :
    Array.foldl (fun cs (x : Value × Nat) => cs.setIfInBounds (off + x.snd) x.fst) cs v.zipIdx 0 n = (cs.toList.take off ++ v.toList).toArray := by
  have e0 : Array.foldl (fun cs (x : Value × Nat) => cs.setIfInBounds (off + x.snd) x.fst) cs v.zipIdx 0 n = (v.toList.zipIdx 0).foldl (fun cs (p : Value × Nat) => cs.setIfInBounds (off + p.2) p.1) cs := by
    have hz : v.zipIdx.size = n := by simp [hv]
    rw [← Array.toList_zipIdx, Array.foldl_toList, hz]
  rw [e0]
  apply Array.ext_getElem?
  intro j
  rw [fold_get off v.toList 0 cs j (by simp; omega)]
  have eR : ∀ X : List Value, X.toArray[j]? = X[j]? := fun X => List.getElem?_toArray
  have eC : cs[j]? = cs.toList[j]? := Array.getElem?_toList.symm
  rw [eC, eR (cs.toList.take off ++ v.toList)]
  simp only [Nat.add_zero, Array.length_toList]
  by_cases a1 : j < off
  · rw [if_neg (by omega), List.getElem?_append_left (by simp; omega), List.getElem?_take, if_pos a1]
  · rw [List.getElem?_append_right (by simp; omega)]
    simp only [List.length_take, Array.length_toList, Nat.min_eq_left (show off ≤ cs.size by omega)]
    by_cases a2 : j < off + v.size
    · rw [if_pos (by omega)]
    · rw [if_neg (by omega), List.getElem?_eq_none (by simp; omega), List.getElem?_eq_none (by simp; omega)]
theorem foldl_all (n : Nat) (v cs : Array Value) (hv : v.size = n) (hl : cs.size = n) :
    Array.foldl (fun cs (x : Value × Nat) => cs.setIfInBounds x.snd x.fst) cs v.zipIdx 0 n = v := by
  have h := foldl_lay 0 n v cs hv (by omega)
  simp only [Nat.zero_add] at h
  rw [h]
  simp
end Go.Proofs.YtoaihngckcbhiaaGreatDoor
end
