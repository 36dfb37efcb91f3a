/- Small things for data that came in. '[]maslinlaw04.Step', as it came in. -/
import Derived.Test.YtdmbadkpendfhaaGreatDoorReads
import Derived.Deep.Slices
import Derived.Deep.Fields
import Derived.ChangeArms
import Derived.Test.YtdmbadkpendfhaaGreatDoorBlk
namespace Go.Proofs.YtdmbadkpendfhaaGreatDoor
open Go.RowKit Go.WideShapes Go.ChangeShapes Go.Deep

theorem list_of {α : Type} {P : Nat → α → Prop} : ∀ (n : Nat), (∀ i, i < n → ∃ x, P i x) → ∃ l : List α, l.length = n ∧ ∀ i, (h : i < l.length) → P i l[i]
  | 0, _ => ⟨[], rfl, fun i hi => by simp at hi⟩
  | n + 1, h => by
    obtain ⟨l, hl, hp⟩ := list_of n (fun i hi => h i (by omega))
    obtain ⟨x, hx⟩ := h n (by omega)
    refine ⟨l ++ [x], by simp [hl], fun i hi => ?_⟩
    by_cases hin : i < l.length
    · rw [List.getElem_append_left hin]; exact hp i hin
    · have : i = l.length := by simp at hi; omega
      subst this
      rw [List.getElem_append_right (Nat.le_refl _)]
      simp
      rw [hl]; exact hx

theorem weights_all {H : Type} {P : Program} {e : TypeId} {x : DataW H} {l : List (DataW H)} (h : x ∈ l) {n : Nat} (hn : n ∈ DataW.weights P e x) : n ∈ DataW.weightsAll P e l := by
  induction l with
  | nil => simp at h
  | cons y l ih =>
    simp only [DataW.weightsAll, List.mem_append]
    rcases List.mem_cons.1 h with rfl | h
    · exact .inl hn
    · exact .inr (ih h)

theorem one_at {cs : List Value} {n : Nat} (hl : cs.length = n) (j : Nat) (hj : j < n) : (cs.drop j).take 1 = [cs[j]'(by omega)] := by
  rw [List.drop_eq_getElem_cons (by omega)]
  rfl

end Go.Proofs.YtdmbadkpendfhaaGreatDoor

namespace Go.Proofs.YtdmbadkpendfhaaGreatDoor
open Go.RowKit Go.WideShapes Go.ChangeShapes Go.Deep

structure Stp where
  what : Int
  place : Int
  n : Int
  s : List UInt8
  raw : Bool

/-- A step lies at an address. -/
structure StpAt (w : World) (q : Addr) (x : Stp) : Prop where
  lt : q.block < w.heap.size
  c0 : w.cell? (q.add 0) = some (.int .i64 x.what)
  c1 : w.cell? (q.add 1) = some (.int .i64 x.place)
  c2 : w.cell? (q.add 2) = some (.int .i64 x.n)
  c3 : w.cell? (q.add 3) = some (.string (bs x.s))
  c4 : w.cell? (q.add 4) = some (.bool x.raw)
theorem StpAt.below {w w' : World} {q : Addr} {x : Stp} (h : StpAt w q x) (hb : Below w.heap.size w w') : StpAt w' q x :=
  ⟨Nat.lt_of_lt_of_le h.lt hb.size, (hb.cell (by rw [add_block]; exact h.lt)).trans h.c0, (hb.cell (by rw [add_block]; exact h.lt)).trans h.c1, (hb.cell (by rw [add_block]; exact h.lt)).trans h.c2, (hb.cell (by rw [add_block]; exact h.lt)).trans h.c3, (hb.cell (by rw [add_block]; exact h.lt)).trans h.c4⟩
theorem StpAt.cells {w : World} {q : Addr} {x : Stp} (h : StpAt w q x) : w.cell? q = some (.int .i64 x.what) ∧ w.cell? ⟨q.block, q.off + 1, none⟩ = some (.int .i64 x.place) ∧ w.cell? ⟨q.block, q.off + 2, none⟩ = some (.int .i64 x.n) ∧
    w.cell? ⟨q.block, q.off + 3, none⟩ = some (.string (bs x.s)) ∧ w.cell? ⟨q.block, q.off + 4, none⟩ = some (.bool x.raw) := by
  refine ⟨?_, h.c1, h.c2, h.c3, h.c4⟩
  rw [← add_zero' q]
  exact h.c0
/-- A row of steps behind an address. -/
def StepsAt (w : World) (a : Option Addr) (l : List Stp) : Prop := ∀ i, (h : i < l.length) → ∃ p : Addr, a = some p ∧ StpAt w (p.add (i * 5)) l[i]
theorem StepsAt.below {w w' : World} {a : Option Addr} {l : List Stp} (h : StepsAt w a l) (hb : Below w.heap.size w w') : StepsAt w' a l := fun i hi => by
  obtain ⟨p, hp, h1⟩ := h i hi
  exact ⟨p, hp, h1.below hb⟩
/-- A step's bounds. -/
def Stp.okay (x : Stp) : Prop := (Lit.int .i64 x.what).wf = true ∧ (Lit.int .i64 x.place).wf = true ∧ (Lit.int .i64 x.n).wf = true ∧ x.s.length ≤ reachBytes

end Go.Proofs.YtdmbadkpendfhaaGreatDoor
