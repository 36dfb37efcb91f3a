/- '[]maslinlaw04.Step', as it came in. -/
import Derived.Test.YtcljpnkknehlmaaGreatTrod
import Derived.Test.YtcljpnkknehlmaaGreatReads
import Derived.Test.YtcljpnkknehlmaaGreatBlk
import Derived.Deep.Slices
import Derived.Deep.Fields
import Derived.ChangeArms
namespace Go.Proofs.YtcljpnkknehlmaaGreat
open Go.RowKit Go.WideShapes Go.ChangeShapes Go.Deep

structure Stp where
  what : Int
  place : Int
  n : Int
  s : List UInt8
  raw : Bool

/-- A step lies at an address. -/
structure StpAt (w : World) (q : Addr) (x : Stp) : Prop where
  lt : q.block < w.heap.size
  c0 : w.cell? (q.add 0) = some (.int .i64 x.what)
  c1 : w.cell? (q.add 1) = some (.int .i64 x.place)
  c2 : w.cell? (q.add 2) = some (.int .i64 x.n)
  c3 : w.cell? (q.add 3) = some (.string (bs x.s))
  c4 : w.cell? (q.add 4) = some (.bool x.raw)
theorem StpAt.below {w w' : World} {q : Addr} {x : Stp} (h : StpAt w q x) (hb : Below w.heap.size w w') : StpAt w' q x :=
  ⟨Nat.lt_of_lt_of_le h.lt hb.size, (hb.cell (by rw [add_block]; exact h.lt)).trans h.c0, (hb.cell (by rw [add_block]; exact h.lt)).trans h.c1, (hb.cell (by rw [add_block]; exact h.lt)).trans h.c2, (hb.cell (by rw [add_block]; exact h.lt)).trans h.c3, (hb.cell (by rw [add_block]; exact h.lt)).trans h.c4⟩
theorem StpAt.cells {w : World} {q : Addr} {x : Stp} (h : StpAt w q x) : w.cell? q = some (.int .i64 x.what) ∧ w.cell? ⟨q.block, q.off + 1, none⟩ = some (.int .i64 x.place) ∧ w.cell? ⟨q.block, q.off + 2, none⟩ = some (.int .i64 x.n) ∧
    w.cell? ⟨q.block, q.off + 3, none⟩ = some (.string (bs x.s)) ∧ w.cell? ⟨q.block, q.off + 4, none⟩ = some (.bool x.raw) := by
  refine ⟨?_, h.c1, h.c2, h.c3, h.c4⟩
  rw [← add_zero' q]
  exact h.c0
/-- A row of steps behind an address. -/
def StepsAt (w : World) (a : Option Addr) (l : List Stp) : Prop := ∀ i, (h : i < l.length) → ∃ p : Addr, a = some p ∧ StpAt w (p.add (i * 5)) l[i]
theorem StepsAt.below {w w' : World} {a : Option Addr} {l : List Stp} (h : StepsAt w a l) (hb : Below w.heap.size w w') : StepsAt w' a l := fun i hi => by
  obtain ⟨p, hp, h1⟩ := h i hi
  exact ⟨p, hp, h1.below hb⟩
/-- A step's bounds. -/
def Stp.okay (x : Stp) : Prop := (Lit.int .i64 x.what).wf = true ∧ (Lit.int .i64 x.place).wf = true ∧ (Lit.int .i64 x.n).wf = true ∧ x.s.length ≤ reachBytes

end Go.Proofs.YtcljpnkknehlmaaGreat
