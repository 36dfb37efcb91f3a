/- DiskCopy2 DiskH -/
import Derived.Test.YtoaihngckcbhiaaGreatDoorPkDiskRep
import Derived.Laws.Externs
import Derived.MapKept
import Derived.Test.YtoaihngckcbhiaaGreatDoorPkDiskF
import Derived.Test.YtoaihngckcbhiaaGreatDoorPkDiskFill
import Derived.Test.YtoaihngckcbhiaaGreatDoorPkTrod2
section
namespace Go.Proofs.YtoaihngckcbhiaaGreatDoor
open Go.RowKit Go.Maps
end Go.Proofs.YtoaihngckcbhiaaGreatDoor
namespace Go.Proofs.YtoaihngckcbhiaaGreatDoor
open Go.RowKit Go.Maps
section
variable {B : Nat} {w0 w : World} {b : Nat} {D : Dsk} {fp : Nat → Prop}
end
end Go.Proofs.YtoaihngckcbhiaaGreatDoor
end
section
namespace Go.Proofs.YtoaihngckcbhiaaGreatDoor
open Go.RowKit Go.Maps
def Stp.cost (x : Stp) : Int := (x.s.length : Int) + (if x.what = 0 then 64 * (if x.n < 0 then 0 else x.n) else 0)
def costs (l : List Stp) : Int := (l.map Stp.cost).sum
theorem costs_snoc (l : List Stp) (k : Nat) (h : k < l.length) : costs (l.take (k + 1)) = costs (l.take k) + l[k].cost := by
  unfold costs
  rw [List.take_succ_eq_append_getElem h, List.map_append, List.sum_append]
  simp
structure Light (l : List Stp) : Prop where
  len : l.length ≤ 80
  cost : costs l ≤ 32768
  n : ∀ x ∈ l, x.what = 0 → x.n ≤ 100
def HeavyPost (N : Int) (l : List Stp) (w : World) (e : Ending) (w' : World) : Prop := ∃ h, e = .returned (.bool h) ∧ w = w' ∧ (h = false → Light l ∧ (200 < N → 16384 < N))
end Go.Proofs.YtoaihngckcbhiaaGreatDoor
namespace Go.Proofs.YtoaihngckcbhiaaGreatDoor
open Go.RowKit Go.Maps
def Stp.text (x : Stp) : List UInt8 := if x.raw then x.s else fill x.s (64 * x.n.toNat)
end Go.Proofs.YtoaihngckcbhiaaGreatDoor
end
