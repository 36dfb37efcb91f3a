/- Copies -/
import Derived.Test.YtoaihngckcbhiaaGreatDoorPkBlk
import Derived.Deep.RegionHeld3
import Derived.Deep.RegionLaw
import Derived.Maps.AppendAt
import Derived.OneCell
import Derived.Laws.OwnMore
namespace Go.Proofs.YtoaihngckcbhiaaGreatDoor
open Go.RowKit Go.Maps
theorem slice_len {w : World} {base e s : Nat} {v : Value} {n : Nat} {xs : List Value} (h : w.ownsRow base e s v n xs) : ∃ q cap, v = .slice q n cap := by
  rcases h.2 with ⟨e1, e2⟩ | ⟨g, cap, _, e1, _⟩
  · exact ⟨none, 0, by rw [e1, e2]⟩
  · exact ⟨_, cap, e1⟩
theorem row_below {w w' : World} {base e s : Nat} {v : Value} {n : Nat} {xs : List Value} (h : w.ownsRow base e s v n xs) (hb : Below w.heap.size w w') : w'.ownsRow base e s v n xs := ownsRow_upd h (Upd.of_below (F := fun _ => False) hb) (fun _ _ f => f)
end Go.Proofs.YtoaihngckcbhiaaGreatDoor
