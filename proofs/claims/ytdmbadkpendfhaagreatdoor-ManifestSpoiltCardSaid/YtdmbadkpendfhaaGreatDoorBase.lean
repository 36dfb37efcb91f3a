/- Small things that all walks use: a text as a list of bytes, endings, what lies below a block. -/
import Derived.Test.YtdmbadkpendfhaaGreatDoorChecked
import Derived.WalkKit
import Derived.Deep.WholeRow
import Derived.Lib.Hide
namespace Go.Proofs.YtdmbadkpendfhaaGreatDoor
open Go.RowKit

/-- A text, of a list of bytes. -/
def bs (l : List UInt8) : ByteArray := ⟨l.toArray⟩
theorem bs_of (s : ByteArray) : bs s.data.toList = s := rfl
theorem exists_bs (s : ByteArray) : ∃ l, s = bs l := ⟨s.data.toList, rfl⟩
@[simp] theorem bs_size (l : List UInt8) : (bs l).size = l.length := rfl
@[simp] theorem bs_data (l : List UInt8) : (bs l).data = l.toArray := rfl
@[simp] theorem bs_append (l k : List UInt8) : bs l ++ bs k = bs (l ++ k) := by
  apply ByteArray.ext
  simp [ByteArray.data_append]
theorem bs_lt {l : List UInt8} {i : Nat} (h : i < (bs l).size) : i < l.length := h
@[simp] theorem bs_getElem (l : List UInt8) (i : Nat) (h : i < (bs l).size) : (bs l)[i] = l[i]'(bs_lt h) := rfl
theorem bs_inj {l k : List UInt8} : bs l = bs k ↔ l = k := by
  constructor
  · intro h
    have := congrArg (fun s => s.data.toList) h
    simpa using this
  · rintro rfl; rfl
@[simp] theorem bs_extract (l : List UInt8) (a b : Nat) : (bs l).extract a b = bs ((l.take b).drop a) := by
  apply ByteArray.ext
  simp [ByteArray.data_extract]
  apply List.ext_getElem?
  intro i
  simp [List.getElem?_take, List.getElem?_drop]
  by_cases h : i < b - a
  · simp [h, show a + i < b by omega]
  · simp [h, show ¬ a + i < b by omega]
@[simp] theorem bs_toList (l : List UInt8) : (bs l).toList = l := ByteArray.toList_mk l
theorem ret_int {k : IntKind} {a b : Int} (h : a = b) : Ending.returned (.int k a) = .returned (.int k b) := by rw [h]
theorem ret_bool {a b : Bool} (h : a = b) : Ending.returned (.bool a) = .returned (.bool b) := by rw [h]
theorem ret_str {a b : List UInt8} (h : a = b) : Ending.returned (.string (bs a)) = .returned (.string (bs b)) := by rw [h]
theorem take_snoc (l : List UInt8) (k : Nat) (h : k < l.length) : l.take (k + 1) = l.take k ++ [l[k]] := List.take_succ_eq_append_getElem h

/-- Bytes as cells. -/
@[irreducible] def u8row (k : List UInt8) : Array Value := (k.map fun b => Value.int .u8 (b.toNat : Int)).toArray
@[simp] theorem u8row_size (k : List UInt8) : (u8row k).size = k.length := by unfold u8row; simp
theorem u8row_get (k : List UInt8) (i : Nat) (h : i < k.length) : (u8row k)[i]? = some (.int .u8 (k[i].toNat : Int)) := by
  unfold u8row
  rw [List.getElem?_toArray, List.getElem?_map, List.getElem?_eq_getElem h]; rfl
theorem u8row_none (k : List UInt8) (i : Nat) (h : k.length ≤ i) : (u8row k)[i]? = none := Array.getElem?_eq_none (by simpa using h)
theorem u8row_set (k : List UInt8) (i : Nat) (b : UInt8) : (u8row k).setIfInBounds i (.int .u8 (b.toNat : Int)) = u8row (k.set i b) := by
  unfold u8row
  rw [List.map_set, List.setIfInBounds_toArray]
theorem u8row_one (k : List UInt8) : (u8row k).all (·.oneCell') = true := by
  unfold u8row
  rw [Array.all_eq_true]
  intro i hi
  simp at hi ⊢
  rfl
theorem u8_ofNat (n : Nat) : (UInt8.ofNat n).toNat = n % 256 := rfl

/-- A row of bytes as a text. -/
theorem run_bytes_bs (P : Program) (w : World) (src e dst : TypeId) (hs : P.underlying src = some (.slice e)) (he : P.underlying e = some (.int .u8)) (hd : P.underlying dst = some .string)
    (b off len cap : Nat) (k : List UInt8) (hlen : k.length = len) (hcell : ∀ i, (h : i < k.length) → w.cell? ⟨b, off + i, none⟩ = some (.int .u8 (k[i].toNat : Int))) :
    (convert src dst (.slice (some ⟨b, off, none⟩) len cap)).run P w = .ok (.string (bs k)) w := by
  have h := run_convert_bytes_arg (P := P) w src e hs he b off len cap (k.map fun x => (x.toNat : Int)) (by simpa using hlen) (fun i hi => by
    rw [hcell i (by omega)]
    simp [List.getD_eq_getElem?_getD, List.getElem?_eq_getElem (show i < k.length by omega)]) dst hd
  rw [h]
  congr 2
  apply ByteArray.ext
  apply Array.ext'
  rw [strOfNums_data]
  simp [bs, Function.comp_def]

/-- 'b[:n]' of an array behind a pointer. -/
theorem run_slice_arr (P : Program) (w : World) (t e : TypeId) (N n b : Nat) (hu : P.underlying t = some (.array N e)) (hs : (P.info? e).map (·.size) = some 1) (hn : n ≤ N) :
    (Instr.sliceAt t (.pointer (some ⟨b, 0, none⟩)) none (some (.int .i64 (n : Int))) none).run P w = .ok (.slice (some ⟨b, 0, none⟩) n N) w := by
  cases hq : P.info? e with
  | none => simp [hq] at hs
  | some i =>
    simp [Instr.sliceAt, Instr.sureAddr, run_underlying hu, Instr.sliceBounds, run_sliceBound, sizeOf, typeInfo, hq, go_sem, hn]
theorem run_slice_arr_all (P : Program) (w : World) (t e : TypeId) (N b : Nat) (hu : P.underlying t = some (.array N e)) (hs : (P.info? e).map (·.size) = some 1) :
    (Instr.sliceAt t (.pointer (some ⟨b, 0, none⟩)) none none none).run P w = .ok (.slice (some ⟨b, 0, none⟩) N N) w := by
  cases hq : P.info? e with
  | none => simp [hq] at hs
  | some i =>
    simp [Instr.sliceAt, Instr.sureAddr, run_underlying hu, Instr.sliceBounds, sizeOf, typeInfo, hq, go_sem]

theorem cell_new_row (w : World) (c : Array Value) (T : TypeId) (i : Nat) : (w.alloc (.cells c T)).cell? ⟨w.heap.size, i, none⟩ = c[i]? :=
  cell_of_row _ _ i c T (0, 0) (heap_alloc_last w _)
/-- One byte, as a text: 'string([]byte{x})'. -/
theorem run_byte_bs (P : Program) (w : World) (src e dst T : TypeId) (hs : P.underlying src = some (.slice e)) (he : P.underlying e = some (.int .u8)) (hd : P.underlying dst = some .string)
    (x : Int) (b : UInt8) (hx : x = (b.toNat : Int)) :
    (convert src dst (.slice (some ⟨w.heap.size, 0, none⟩) 1 1)).run P (w.alloc (.cells #[.int .u8 x] T)) = .ok (.string (bs [b])) (w.alloc (.cells #[.int .u8 x] T)) := by
  subst hx
  refine run_bytes_bs P _ src e dst hs he hd _ 0 1 1 [b] rfl (fun i hi => ?_)
  rw [Nat.zero_add, cell_new_row]
  obtain rfl : i = 0 := by simpa using hi
  rfl
/-- One step behind the other. -/
theorem below_next {w a b : World} (h : Below w.heap.size w a) (k : Below a.heap.size a b) : Below w.heap.size w b := h.trans (k.mono h.size)
end Go.Proofs.YtdmbadkpendfhaaGreatDoor
