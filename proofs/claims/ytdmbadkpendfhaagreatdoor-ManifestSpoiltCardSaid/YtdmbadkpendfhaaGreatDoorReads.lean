/- How slices that came in lie in memory: rows of texts. -/
import Derived.Test.YtdmbadkpendfhaaGreatDoorBase
import Derived.SliceStrings
import Derived.ProofKit
import Derived.SizedLaws
import Derived.Deep.MidRow
namespace Go.Proofs.YtdmbadkpendfhaaGreatDoor
open Go.RowKit Go.WideShapes Go.ChangeShapes

theorem addr_plain {w : World} {a : Addr} {i : Nat} {v : Value} (h : w.cell? (a.add i) = some v) : a = ⟨a.block, a.off, none⟩ ∧ a.add i = ⟨a.block, a.off + i, none⟩ ∨ (i ≠ 0 ∧ a.add i = ⟨a.block, a.off + i, none⟩) := by
  unfold Addr.add at h ⊢
  split at h
  · rename_i h0
    left
    have hs : a.spot = none := by
      cases hs : a.spot with
      | none => rfl
      | some s =>
        unfold World.cell? at h
        split at h
        · simp [hs] at h
        · simp at h
    obtain ⟨b, o, s⟩ := a
    subst hs; subst h0
    exact ⟨rfl, by simp⟩
  · rename_i h0
    right
    exact ⟨h0, by rw [if_neg h0]⟩

/-- A row of texts behind an address. -/
def StrsAt (w : World) (a : Option Addr) (ls : List (List UInt8)) : Prop :=
  ∀ i, (h : i < ls.length) → ∃ p : Addr, a = some p ∧ p.block < w.heap.size ∧ w.cell? (p.add i) = some (.string (bs ls[i]))

theorem StrsAt.below {w w' : World} {a : Option Addr} {ls : List (List UInt8)} (h : StrsAt w a ls) (hb : Below w.heap.size w w') : StrsAt w' a ls := by
  intro i hi
  obtain ⟨p, hp, hl, hc⟩ := h i hi
  refine ⟨p, hp, Nat.lt_of_lt_of_le hl hb.size, ?_⟩
  rw [hb.cell (by unfold Addr.add; split <;> exact hl)]
  exact hc

/-- The place of an element of a slice whose elements have so many cells. -/
theorem run_index_slice (P : Program) (T E : TypeId) (hu : P.underlying T = some (.slice E)) (s : Nat) (hs : (P.info? E).map (·.size) = some s) (p : Addr) (n cap k : Nat) (hk : k < n) (W : World) :
    (Instr.indexAt T (.slice (some p) n cap) (.int .i64 (k : Int))).run P W = .ok (.pointer (some (p.add (k * s)))) W := by
  cases hq : P.info? E with
  | none => simp [hq] at hs
  | some i =>
    have h1 : i.size = s := by simpa [hq] using hs
    simp [Instr.indexAt, run_underlying hu, asIntOf, sizeOf, typeInfo, hq, h1, hk]

theorem StrsAt.index {w : World} {a : Option Addr} {ls : List (List UInt8)} (h : StrsAt w a ls) (P : Program) (T E : TypeId) (hu : P.underlying T = some (.slice E)) (hs : (P.info? E).map (·.size) = some 1) (cap k : Nat) (hk : k < ls.length) :
    ∃ p : Addr, (∀ W, (Instr.indexAt T (.slice a ls.length cap) (.int .i64 (k : Int))).run P W = .ok (.pointer (some p)) W) ∧ w.cell? p = some (.string (bs ls[k])) ∧ p.block < w.heap.size := by
  obtain ⟨p, rfl, hl, hc⟩ := h k hk
  refine ⟨p.add k, fun W => ?_, hc, by unfold Addr.add; split <;> exact hl⟩
  rw [run_index_slice P T E hu 1 hs p ls.length cap k hk W, Nat.mul_one]

/-- A '[]string' that came in. -/
theorem strs_of_trod {H : Type} {enc : TypeId × Value → H} {P : Program} {W : World} {base : Nat} {T E : TypeId} {v : Value} {d : DataW H} {p : List MemPlace}
    (ht : P.underlying T = some (.slice E)) (he : P.underlying E = some .string) (hc : P.cellsOf E = 1) (hby : P.bytesOf E = 16)
    (ho : Value.okWide P W .any base T v) (h : DataW.Trod enc P W 0 (fun _ => true) true T v d p) (hz : ∀ n ∈ DataW.weights P T d, (decide (n ≤ reachBytes)) = true) :
    ∃ (a : Option Addr) (cap : Nat) (ls : List (List UInt8)), v = .slice a ls.length cap ∧ StrsAt W a ls ∧ ls.length * 16 ≤ reachBytes ∧ ∀ l ∈ ls, l.length ≤ reachBytes := by
  obtain ⟨a0, len, cap, rfl⟩ := okWide_slice ht ho
  obtain ⟨fuel, hf⟩ := h
  rcases ChangeShapes.open_strings ht he hc hf with ⟨hcs, _⟩ | ⟨a, len', cap', ss, hcs, _, hl, hm, hlen, hx, hcell, hws⟩
  · simp [Value.cells] at hcs
    obtain ⟨rfl, rfl, rfl⟩ := hcs
    exact ⟨none, 0, [], rfl, fun i hi => by simp at hi, by simp, by simp⟩
  · simp [Value.cells] at hcs
    obtain ⟨rfl, rfl, rfl⟩ := hcs
    have hss : ss.length = cap := by rw [hlen]; simp
    simp only [Prod.mk.injEq] at hx
    obtain ⟨hd, _⟩ := hx
    have hll : ((ss.take len).map fun s => s.data.toList).length = len := by simp [hss]; omega
    refine ⟨some a, cap, (ss.take len).map fun s => s.data.toList, by rw [hll], fun i hi => ?_, ?_, ?_⟩
    · rw [hll] at hi
      have hce := hcell i (by omega)
      refine ⟨a, rfl, ?_, ?_⟩
      · have := block_lt_of_cell hce
        unfold Addr.add at this
        split at this <;> exact this
      · rw [hce]
        simp [List.getD_eq_getElem?_getD, List.getElem?_eq_getElem (show i < ss.length by omega)]
        rfl
    · have := hz _ (by rw [hd]; simp only [DataW.weights, ht]; exact List.mem_cons_self)
      rw [hby] at this
      rw [hll]
      have h2 := of_decide_eq_true this
      simp [ChangeShapes.strs, hss] at h2
      omega
    · intro l hl2
      obtain ⟨s, hs, rfl⟩ := List.mem_map.1 hl2
      have := hz s.data.toList.length (by
        rw [hd]; simp only [DataW.weights, ht]
        refine List.mem_cons_of_mem _ (List.mem_append_left _ ?_)
        have : ∀ (q : List ByteArray), s ∈ q → s.data.toList.length ∈ DataW.weightsAll P E (ChangeShapes.strs (H := H) q) := by
          intro q hq
          induction q with
          | nil => simp at hq
          | cons x q ih =>
            simp only [ChangeShapes.strs, List.map_cons, DataW.weightsAll, DataW.weights, List.mem_append]
            rcases List.mem_cons.1 hq with rfl | hq
            · left; simp
            · right; exact ih hq
        exact this _ hs)
      exact of_decide_eq_true this

/-- Bytes, one a cell, at a block's head; they may be written. -/
def BytesAt (w : World) (b : Nat) (l : List UInt8) : Prop :=
  ∃ C e fr, w.heap[b]? = some (.cells C e fr) ∧ (∀ i, (h : i < l.length) → C[i]? = some (.int .u8 (l[i].toNat : Int))) ∧ (l.length ≤ fr.1 ∨ fr = (0, 0))
theorem BytesAt.cell {w : World} {b : Nat} {l : List UInt8} (h : BytesAt w b l) (i : Nat) (hi : i < l.length) : w.cell? ⟨b, i, none⟩ = some (.int .u8 (l[i].toNat : Int)) := by
  obtain ⟨C, e, fr, hb, hc, _⟩ := h
  rw [cell_of_row w b i C e fr hb]
  exact hc i hi
theorem BytesAt.free {w : World} {b : Nat} {l : List UInt8} (h : BytesAt w b l) (i : Nat) (hi : i < l.length) : w.frozen? ⟨b, i, none⟩ = false := by
  obtain ⟨C, e, ⟨f1, f2⟩, hb, _, hf⟩ := h
  simp only [Prod.mk.injEq] at hf
  simp [World.frozen?, hb]
  omega
theorem BytesAt.set {w : World} {b : Nat} {l : List UInt8} (h : BytesAt w b l) (i : Nat) (x : UInt8) : BytesAt (w.setCell ⟨b, i, none⟩ (.int .u8 (x.toNat : Int))) b (l.set i x) := by
  obtain ⟨C, e, fr, hb, hc, hf⟩ := h
  refine ⟨C.setIfInBounds i (.int .u8 (x.toNat : Int)), e, fr, ?_, fun j hj => ?_, by simpa using hf⟩
  · rw [setCell_eq_setRow w b i C e fr _ hb]
    exact setRow_heap w b C _ e fr hb
  · simp only [List.length_set] at hj
    rw [Array.getElem?_setIfInBounds]
    have hcs : j < C.size := by
      have := hc j hj
      exact (Array.getElem?_eq_some_iff.1 this).1
    by_cases e1 : i = j
    · subst e1; simp [hcs]
    · rw [if_neg e1, hc j hj, List.getElem_set_ne e1]
theorem BytesAt.lt {w : World} {b : Nat} {l : List UInt8} (h : BytesAt w b l) : b < w.heap.size := by
  obtain ⟨C, e, fr, hb, _⟩ := h
  exact (Array.getElem?_eq_some_iff.1 hb).1
theorem BytesAt.below {w w' : World} {b : Nat} {l : List UInt8} (h : BytesAt w b l) (hb : Below w.heap.size w w') : BytesAt w' b l := by
  have hlt := h.lt
  obtain ⟨C, e, fr, h1, h2⟩ := h
  exact ⟨C, e, fr, by rw [hb.block b hlt]; exact h1, h2⟩
theorem bytes_new (w : World) (l : List UInt8) (e : TypeId) : BytesAt (w.drew.alloc (.cells (bytesRow (bs l) (grownCap w l.length 0 e)) e ((bytesRow (bs l) (grownCap w l.length 0 e)).size, (bytesRow (bs l) (grownCap w l.length 0 e)).size + 1))) w.heap.size l := by
  refine ⟨_, _, _, heap_alloc_last w.drew _, fun i hi => ?_, ?_⟩
  · exact bytesRow_at (bs l) _ i (by simpa using hi)
  · left; simp [bytesRow]

/-- A row of bytes in cells. -/
@[irreducible] def u8cells (k : List UInt8) : List Value := (u8row k).toList
theorem u8cells_length (k : List UInt8) : (u8cells k).length = k.length := by unfold u8cells; simp
theorem u8cells_array (k : List UInt8) : (u8cells k).toArray = u8row k := by unfold u8cells; simp
theorem u8row_list (k : List UInt8) : (u8row k).toList = u8cells k := by unfold u8cells; rfl
theorem u8cells_get (k : List UInt8) (i : Nat) (h : i < k.length) : (u8cells k)[i]? = some (.int .u8 (k[i].toNat : Int)) := by
  unfold u8cells
  rw [Array.getElem?_toList, u8row_get k i h]
theorem u8cells_one (k : List UInt8) : ∀ u ∈ u8cells k, u.oneCell' = true := by
  unfold u8cells
  intro u hu
  exact (Array.all_eq_true_iff_forall_mem.1 (u8row_one k)) u (by simpa using hu)
theorem u8cells_cons (x : UInt8) (k : List UInt8) : u8cells (x :: k) = .int .u8 (x.toNat : Int) :: u8cells k := by unfold u8cells u8row; simp
theorem u8cells_nil : u8cells [] = [] := by unfold u8cells u8row; simp
theorem u8cells_append (a b : List UInt8) : u8cells (a ++ b) = u8cells a ++ u8cells b := by unfold u8cells u8row; simp
/-- Bytes laid over others. -/
theorem BytesAt.seg {b : Nat} (x : List UInt8) : ∀ {w : World} {q : List UInt8} (o : Nat), BytesAt w b q → o + x.length ≤ q.length → BytesAt (w.setCells b o (u8cells x)) b (q.take o ++ x ++ q.drop (o + x.length)) := by
  induction x with
  | nil =>
    intro w q o h _
    rw [u8cells_nil]
    simpa [World.setCells] using h
  | cons a x ih =>
    intro w q o h hl
    simp only [List.length_cons] at hl
    have h1 := ih (o + 1) (h.set o a) (by rw [List.length_set]; omega)
    rw [u8cells_cons]
    simp only [World.setCells]
    have e : (q.set o a).take (o + 1) ++ x ++ (q.set o a).drop (o + 1 + x.length) = q.take o ++ a :: x ++ q.drop (o + (a :: x).length) := by
      have e1 : (q.set o a).take (o + 1) = q.take o ++ [a] := by
        rw [List.take_succ_eq_append_getElem (by rw [List.length_set]; omega), List.getElem_set_self, List.take_set_of_le (Nat.le_refl _)]
      have e2 : (q.set o a).drop (o + 1 + x.length) = q.drop (o + (a :: x).length) := by
        rw [List.drop_set_of_lt (by omega), List.length_cons, show o + 1 + x.length = o + (x.length + 1) by omega]
      rw [e1, e2]
      simp
    rw [← e]
    exact h1
theorem BytesAt.range {w : World} {b : Nat} {q : List UInt8} (h : BytesAt w b q) (o n : Nat) (hl : o + n ≤ q.length) : w.rangeAt b o (u8cells ((q.drop o).take n)) := by
  intro j v hv
  have hj := (List.getElem?_eq_some_iff.1 hv).1
  rw [u8cells_length] at hj
  rw [u8cells_get _ j hj] at hv
  have hj2 : j < n := by rw [List.length_take] at hj; omega
  rw [h.cell (o + j) (by omega), ← hv]
  simp [List.getElem_take, List.getElem_drop]
theorem BytesAt.there {w : World} {b : Nat} {q : List UInt8} (h : BytesAt w b q) (o n : Nat) (hl : o + n ≤ q.length) : w.there b o n := fun j hj => ⟨by rw [h.cell (o + j) (by omega)]; rfl, h.free (o + j) (by omega)⟩
/-- A row made anew. -/
theorem bytes_row_new (w : World) (c : Array Value) (T : TypeId) (q : List UInt8) (hc : ∀ i, (h : i < q.length) → c[i]? = some (.int .u8 (q[i].toNat : Int))) : BytesAt (w.alloc (.cells c T)) w.heap.size q :=
  ⟨c, T, (0, 0), heap_alloc_last w _, hc, .inr rfl⟩

/-- Cells laid over cells. -/
theorem BytesAt.store {w : World} {b : Nat} {q : List UInt8} (h : BytesAt w b q) (P : Program) (o : Nat) (x : List UInt8) (hl : o + x.length ≤ q.length) :
    (storeCells ⟨b, o, none⟩ (u8row x).toList).run P w = .ok () (w.setCells b o (u8cells x)) := by
  have ht := h.there o x.length hl
  have := run_storeCells_cells (P := P) b o (u8cells x) 0 w (fun j hj => by rw [u8cells_length] at hj; simpa using (ht j hj).1) (fun j hj => by rw [u8cells_length] at hj; simpa using (ht j hj).2) (u8cells_one x)
  rw [u8row_list]
  simpa using this
theorem upd_setCells (b : Nat) : ∀ (vs : List Value) (o : Nat) (w : World), (w.setCells b o vs).heap.size = w.heap.size ∧ (w.setCells b o vs).os = w.os ∧ (w.setCells b o vs).tape = w.tape ∧ (w.setCells b o vs).output = w.output ∧ ∀ k, k ≠ b → (w.setCells b o vs).heap[k]? = w.heap[k]?
  | [], _, _ => ⟨rfl, rfl, rfl, rfl, fun _ _ => rfl⟩
  | v :: r, o, w => by
    obtain ⟨h1, h2, h3, h4, h5⟩ := upd_setCells b r (o + 1) (w.setCell ⟨b, o, none⟩ v)
    exact ⟨h1.trans (by simp [World.setCell]), h2, h3, h4, fun k hk => (h5 k hk).trans (Below.heap_setCell _ _ _ _ hk)⟩
theorem below_setCells {B : Nat} {a w : World} (h : Below B a w) {b : Nat} (hb : B ≤ b) (o : Nat) (vs : List Value) : Below B a (w.setCells b o vs) := by
  obtain ⟨h1, h2, h3, h4, h5⟩ := upd_setCells b vs o w
  exact h.trans ⟨h2, h3, h4, by omega, fun k hk => h5 k (by omega)⟩

/-- '[]byte(s)': some world behind it. -/
theorem conv_bytes (P : Program) (src dst e : TypeId) (hs : P.underlying src = some .string) (hd : P.underlying dst = some (.slice e)) (he : P.underlying e = some (.int .u8)) (w : World) (x : List UInt8) :
    ∃ (w1 : World) (cap : Nat), (convert src dst (.string (bs x))).run P w = .ok (.slice (some ⟨w.heap.size, 0, none⟩) x.length cap) w1 ∧ BytesAt w1 w.heap.size x ∧ Below w.heap.size w w1 ∧ w1.heap.size = w.heap.size + 1 := by
  have h := run_bytes_of_string (P := P) w src dst e (bs x) hs hd he
  exact ⟨_, _, h, bytes_new w x e, (Below.refl _ _).drew.alloc (Nat.le_refl _) _, by simp⟩
theorem run_arrayAt (P : Program) (W : World) (T E : TypeId) (N : Nat) (a : Option Addr) (n c : Nat) (hu : P.underlying T = some (.array N E)) (hn : N ≤ n) : (Instr.arrayAt T (.slice a n c)).run P W = .ok (.pointer a) W := by
  simp [Instr.arrayAt, run_underlying hu, show ¬ n < N by omega]
end Go.Proofs.YtdmbadkpendfhaaGreatDoor
