/- maslinlaw04.Same, walked. -/
import Derived.Test.YtdmbadkpendfhaaGreatDoorBoth
import Derived.BigQuiet
namespace Go.Proofs.YtdmbadkpendfhaaGreatDoor
open Go.RowKit Go.Maps

theorem below_drewN (w : World) (n : Nat) : Below w.heap.size w (w.drewN n) := ⟨rfl, rfl, rfl, Nat.le_refl _, fun _ _ => rfl⟩

section
variable {B : Nat} {w0 w : World} {b r : Nat} {D R : Dsk} {fp fr : Nat → Prop}
end
end Go.Proofs.YtdmbadkpendfhaaGreatDoor
