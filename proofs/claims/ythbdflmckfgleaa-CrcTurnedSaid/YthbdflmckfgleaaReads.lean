/- How slices that came in lie in memory: rows of texts. -/
import Derived.Test.YthbdflmckfgleaaBase
import Derived.SliceStrings
import Derived.ProofKit
import Derived.SizedLaws
namespace Go.Proofs.Ythbdflmckfgleaa
open Go.RowKit Go.WideShapes Go.ChangeShapes

theorem addr_plain {w : World} {a : Addr} {i : Nat} {v : Value} (h : w.cell? (a.add i) = some v) : a = ⟨a.block, a.off, none⟩ ∧ a.add i = ⟨a.block, a.off + i, none⟩ ∨ (i ≠ 0 ∧ a.add i = ⟨a.block, a.off + i, none⟩) := by
  unfold Addr.add at h ⊢
  split at h
  · rename_i h0
    left
    have hs : a.spot = none := by
      cases hs : a.spot with
      | none => rfl
      | some s =>
        unfold World.cell? at h
        split at h
        · simp [hs] at h
        · simp at h
    obtain ⟨b, o, s⟩ := a
    subst hs; subst h0
    exact ⟨rfl, by simp⟩
  · rename_i h0
    right
    exact ⟨h0, by rw [if_neg h0]⟩

/-- A row of texts behind an address. -/
def StrsAt (w : World) (a : Option Addr) (ls : List (List UInt8)) : Prop :=
  ∀ i, (h : i < ls.length) → ∃ p : Addr, a = some p ∧ p.block < w.heap.size ∧ w.cell? (p.add i) = some (.string (bs ls[i]))

theorem StrsAt.below {w w' : World} {a : Option Addr} {ls : List (List UInt8)} (h : StrsAt w a ls) (hb : Below w.heap.size w w') : StrsAt w' a ls := by
  intro i hi
  obtain ⟨p, hp, hl, hc⟩ := h i hi
  refine ⟨p, hp, Nat.lt_of_lt_of_le hl hb.size, ?_⟩
  rw [hb.cell (by unfold Addr.add; split <;> exact hl)]
  exact hc

/-- The place of an element of a slice whose elements have so many cells. -/
theorem run_index_slice (P : Program) (T E : TypeId) (hu : P.underlying T = some (.slice E)) (s : Nat) (hs : (P.info? E).map (·.size) = some s) (p : Addr) (n cap k : Nat) (hk : k < n) (W : World) :
    (Instr.indexAt T (.slice (some p) n cap) (.int .i64 (k : Int))).run P W = .ok (.pointer (some (p.add (k * s)))) W := by
  cases hq : P.info? E with
  | none => simp [hq] at hs
  | some i =>
    have h1 : i.size = s := by simpa [hq] using hs
    simp [Instr.indexAt, run_underlying hu, asIntOf, sizeOf, typeInfo, hq, h1, hk]

theorem StrsAt.index {w : World} {a : Option Addr} {ls : List (List UInt8)} (h : StrsAt w a ls) (P : Program) (T E : TypeId) (hu : P.underlying T = some (.slice E)) (hs : (P.info? E).map (·.size) = some 1) (cap k : Nat) (hk : k < ls.length) :
    ∃ p : Addr, (∀ W, (Instr.indexAt T (.slice a ls.length cap) (.int .i64 (k : Int))).run P W = .ok (.pointer (some p)) W) ∧ w.cell? p = some (.string (bs ls[k])) ∧ p.block < w.heap.size := by
  obtain ⟨p, rfl, hl, hc⟩ := h k hk
  refine ⟨p.add k, fun W => ?_, hc, by unfold Addr.add; split <;> exact hl⟩
  rw [run_index_slice P T E hu 1 hs p ls.length cap k hk W, Nat.mul_one]

/-- A '[]string' that came in. -/
theorem strs_of_trod {H : Type} {enc : TypeId × Value → H} {P : Program} {W : World} {base : Nat} {T E : TypeId} {v : Value} {d : DataW H} {p : List MemPlace}
    (ht : P.underlying T = some (.slice E)) (he : P.underlying E = some .string) (hc : P.cellsOf E = 1) (hby : P.bytesOf E = 16)
    (ho : Value.okWide P W .any base T v) (h : DataW.Trod enc P W 0 (fun _ => true) true T v d p) (hz : ∀ n ∈ DataW.weights P T d, (decide (n ≤ reachBytes)) = true) :
    ∃ (a : Option Addr) (cap : Nat) (ls : List (List UInt8)), v = .slice a ls.length cap ∧ StrsAt W a ls ∧ ls.length * 16 ≤ reachBytes ∧ ∀ l ∈ ls, l.length ≤ reachBytes := by
  obtain ⟨a0, len, cap, rfl⟩ := okWide_slice ht ho
  obtain ⟨fuel, hf⟩ := h
  rcases ChangeShapes.open_strings ht he hc hf with ⟨hcs, _⟩ | ⟨a, len', cap', ss, hcs, _, hl, hm, hlen, hx, hcell, hws⟩
  · simp [Value.cells] at hcs
    obtain ⟨rfl, rfl, rfl⟩ := hcs
    exact ⟨none, 0, [], rfl, fun i hi => by simp at hi, by simp, by simp⟩
  · simp [Value.cells] at hcs
    obtain ⟨rfl, rfl, rfl⟩ := hcs
    have hss : ss.length = cap := by rw [hlen]; simp
    simp only [Prod.mk.injEq] at hx
    obtain ⟨hd, _⟩ := hx
    have hll : ((ss.take len).map fun s => s.data.toList).length = len := by simp [hss]; omega
    refine ⟨some a, cap, (ss.take len).map fun s => s.data.toList, by rw [hll], fun i hi => ?_, ?_, ?_⟩
    · rw [hll] at hi
      have hce := hcell i (by omega)
      refine ⟨a, rfl, ?_, ?_⟩
      · have := block_lt_of_cell hce
        unfold Addr.add at this
        split at this <;> exact this
      · rw [hce]
        simp [List.getD_eq_getElem?_getD, List.getElem?_eq_getElem (show i < ss.length by omega)]
        rfl
    · have := hz _ (by rw [hd]; simp only [DataW.weights, ht]; exact List.mem_cons_self)
      rw [hby] at this
      rw [hll]
      have h2 := of_decide_eq_true this
      simp [ChangeShapes.strs, hss] at h2
      omega
    · intro l hl2
      obtain ⟨s, hs, rfl⟩ := List.mem_map.1 hl2
      have := hz s.data.toList.length (by
        rw [hd]; simp only [DataW.weights, ht]
        refine List.mem_cons_of_mem _ (List.mem_append_left _ ?_)
        have : ∀ (q : List ByteArray), s ∈ q → s.data.toList.length ∈ DataW.weightsAll P E (ChangeShapes.strs (H := H) q) := by
          intro q hq
          induction q with
          | nil => simp at hq
          | cons x q ih =>
            simp only [ChangeShapes.strs, List.map_cons, DataW.weightsAll, DataW.weights, List.mem_append]
            rcases List.mem_cons.1 hq with rfl | hq
            · left; simp
            · right; exact ih hq
        exact this _ hs)
      exact of_decide_eq_true this

/-- Bytes, one a cell, at a block's head; they may be written. -/
def BytesAt (w : World) (b : Nat) (l : List UInt8) : Prop :=
  ∃ C e fr, w.heap[b]? = some (.cells C e fr) ∧ (∀ i, (h : i < l.length) → C[i]? = some (.int .u8 (l[i].toNat : Int))) ∧ l.length ≤ fr.1
theorem BytesAt.cell {w : World} {b : Nat} {l : List UInt8} (h : BytesAt w b l) (i : Nat) (hi : i < l.length) : w.cell? ⟨b, i, none⟩ = some (.int .u8 (l[i].toNat : Int)) := by
  obtain ⟨C, e, fr, hb, hc, _⟩ := h
  rw [cell_of_row w b i C e fr hb]
  exact hc i hi
theorem BytesAt.free {w : World} {b : Nat} {l : List UInt8} (h : BytesAt w b l) (i : Nat) (hi : i < l.length) : w.frozen? ⟨b, i, none⟩ = false := by
  obtain ⟨C, e, ⟨f1, f2⟩, hb, _, hf⟩ := h
  simp only at hf
  simp [World.frozen?, hb]
  omega
theorem BytesAt.set {w : World} {b : Nat} {l : List UInt8} (h : BytesAt w b l) (i : Nat) (x : UInt8) : BytesAt (w.setCell ⟨b, i, none⟩ (.int .u8 (x.toNat : Int))) b (l.set i x) := by
  obtain ⟨C, e, fr, hb, hc, hf⟩ := h
  refine ⟨C.setIfInBounds i (.int .u8 (x.toNat : Int)), e, fr, ?_, fun j hj => ?_, by simpa using hf⟩
  · rw [setCell_eq_setRow w b i C e fr _ hb]
    exact setRow_heap w b C _ e fr hb
  · simp only [List.length_set] at hj
    rw [Array.getElem?_setIfInBounds]
    have hcs : j < C.size := by
      have := hc j hj
      exact (Array.getElem?_eq_some_iff.1 this).1
    by_cases e1 : i = j
    · subst e1; simp [hcs]
    · rw [if_neg e1, hc j hj, List.getElem_set_ne e1]
theorem BytesAt.lt {w : World} {b : Nat} {l : List UInt8} (h : BytesAt w b l) : b < w.heap.size := by
  obtain ⟨C, e, fr, hb, _⟩ := h
  exact (Array.getElem?_eq_some_iff.1 hb).1
theorem BytesAt.below {w w' : World} {b : Nat} {l : List UInt8} (h : BytesAt w b l) (hb : Below w.heap.size w w') : BytesAt w' b l := by
  have hlt := h.lt
  obtain ⟨C, e, fr, h1, h2⟩ := h
  exact ⟨C, e, fr, by rw [hb.block b hlt]; exact h1, h2⟩
theorem bytes_new (w : World) (l : List UInt8) (e : TypeId) : BytesAt (w.drew.alloc (.cells (bytesRow (bs l) (grownCap w l.length 0 e)) e ((bytesRow (bs l) (grownCap w l.length 0 e)).size, (bytesRow (bs l) (grownCap w l.length 0 e)).size + 1))) w.heap.size l := by
  refine ⟨_, _, _, heap_alloc_last w.drew _, fun i hi => ?_, ?_⟩
  · exact bytesRow_at (bs l) _ i (by simpa using hi)
  · simp [bytesRow]
end Go.Proofs.Ythbdflmckfgleaa
