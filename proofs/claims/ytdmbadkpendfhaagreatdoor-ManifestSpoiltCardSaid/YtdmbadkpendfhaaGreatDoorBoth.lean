/- Both disks, the program's and the document's, beside each other; maslinlaw04.Does, walked. -/
import Derived.Test.YtdmbadkpendfhaaGreatDoorRef
import Derived.Test.YtdmbadkpendfhaaGreatDoorDiskCopy2
import Derived.Test.YtdmbadkpendfhaaGreatDoorDiskH
namespace Go.Proofs.YtdmbadkpendfhaaGreatDoor
open Go.RowKit Go.Maps

section
variable {B : Nat} {w0 w w' : World} {b r : Nat} {D D' R R' : Dsk} {fp fp' fr fr' : Nat → Prop}
end

/-- What a step makes of a disk. -/
def Dsk.does (D : Dsk) (x : Stp) : Dsk :=
  if x.what = 0 then (D.write x.place x.text).1 else if x.what = 2 then D.flush.1 else if x.what = 3 then D.fuse x.n else if x.what = 4 then D.crash x.s else D
/-- A step's cells. -/
def Stp.row (x : Stp) : Array Value := #[.int .i64 x.what, .int .i64 x.place, .int .i64 x.n, .string (bs x.s), .bool x.raw]
theorem i64_of {n : Int} (h : (Lit.int .i64 n).wf = true) : -9223372036854775808 ≤ n ∧ n ≤ 9223372036854775807 := by
  simp [Lit.wf, IntKind.min, IntKind.max, IntKind.signed, IntKind.bits] at h
  omega
theorem Stp.text_le (x : Stp) (hs : x.s.length ≤ 32768) (hn : x.n ≤ 100) : x.text.length ≤ 32768 := by
  unfold Stp.text
  split
  · exact hs
  · rw [fill_length]; omega

section
variable {B : Nat} {w0 w : World} {b r : Nat} {D R : Dsk} {fp fr : Nat → Prop}

end
end Go.Proofs.YtdmbadkpendfhaaGreatDoor
