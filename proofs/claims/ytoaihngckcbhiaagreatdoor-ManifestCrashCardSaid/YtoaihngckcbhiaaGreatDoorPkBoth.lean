/- Both Same DiskLaw DiskAlive -/
import Derived.Test.YtoaihngckcbhiaaGreatDoorPkRef
import Derived.Test.YtoaihngckcbhiaaGreatDoorPkDiskCopy2
import Derived.BigQuiet
section
namespace Go.Proofs.YtoaihngckcbhiaaGreatDoor
open Go.RowKit Go.Maps
section
variable {B : Nat} {w0 w w' : World} {b r : Nat} {D D' R R' : Dsk} {fp fp' fr fr' : Nat → Prop}
end
theorem i64_of {n : Int} (h : (Lit.int .i64 n).wf = true) : -9223372036854775808 ≤ n ∧ n ≤ 9223372036854775807 := by
  simp [Lit.wf, IntKind.min, IntKind.max, IntKind.signed, IntKind.bits] at h
  omega
section
variable {B : Nat} {w0 w : World} {b r : Nat} {D R : Dsk} {fp fr : Nat → Prop}
end
end Go.Proofs.YtoaihngckcbhiaaGreatDoor
end
section
namespace Go.Proofs.YtoaihngckcbhiaaGreatDoor
open Go.RowKit Go.Maps
section
variable {B : Nat} {w0 w : World} {b r : Nat} {D R : Dsk} {fp fr : Nat → Prop}
end
end Go.Proofs.YtoaihngckcbhiaaGreatDoor
end
section
namespace Go.Proofs.YtoaihngckcbhiaaGreatDoor
namespace Dsk
theorem writes_loose (D : Dsk) (a : Nat) (s : List UInt8) (n : Nat) : (writes D a s n).1.loose.length ≤ D.loose.length + n := by
  induction n generalizing D a s with
  | zero => exact Nat.le_refl _
  | succ n ih =>
    simp only [writes]
    split
    · show D.loose.length ≤ _; omega
    · have := ih { D with loose := D.loose ++ [(a, s.take 64)], left := max (D.left - 1) (-1) } (a + 1) (s.drop 64)
      have e : (D.loose ++ [(a, s.take 64)]).length = D.loose.length + 1 := by simp
      simp only [e] at this
      omega
theorem write_loose (D : Dsk) (a : Int) (s : List UInt8) : (D.write a s).1.loose.length ≤ D.loose.length + s.length / 64 := by
  unfold write
  split
  · exact Nat.le_add_right _ _
  · split
    · exact writes_loose _ _ _ _
    · exact Nat.le_add_right _ _
theorem flush_loose (D : Dsk) : D.flush.1.loose.length ≤ D.loose.length := by unfold flush; split <;> simp
end Dsk
structure Calm (D : Dsk) (n k : Nat) : Prop where
  n : D.n = n
  down : D.down = false
  left : D.left = -1
  loose : D.loose.length ≤ 512 * k
theorem Calm.new (n : Nat) : Calm (Dsk.new n) n 0 := ⟨rfl, rfl, rfl, by simp [Dsk.new]⟩
end Go.Proofs.YtoaihngckcbhiaaGreatDoor
end
section
namespace Go.Proofs.YtoaihngckcbhiaaGreatDoor
open Go.RowKit Go.Maps
end Go.Proofs.YtoaihngckcbhiaaGreatDoor
end
