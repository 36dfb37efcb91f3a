/- Ref -/
import Derived.Test.YtoaihngckcbhiaaGreatDoorPkDiskF
import Derived.Test.YtoaihngckcbhiaaGreatDoorPkDiskFill
import Derived.Test.YtoaihngckcbhiaaGreatDoorPkCopies
import Derived.Deep.RegionHeld3
import Derived.Maps.AppendAt
import Derived.OneCell
import Derived.Laws.OwnMore
namespace Go.Proofs.YtoaihngckcbhiaaGreatDoor
open Go.RowKit Go.Maps
@[irreducible] def strCells (l : List (List UInt8)) : List Value := l.map fun s => Value.string (bs s)
theorem strCells_length (l : List (List UInt8)) : (strCells l).length = l.length := by unfold strCells; simp
theorem strCells_get (l : List (List UInt8)) (i : Nat) (h : i < l.length) : (strCells l)[i]? = some (.string (bs l[i])) := by
  unfold strCells
  rw [List.getElem?_map, List.getElem?_eq_getElem h]; rfl
theorem strCells_snoc (l : List (List UInt8)) (s : List UInt8) : strCells (l ++ [s]) = strCells l ++ [.string (bs s)] := by unfold strCells; simp
theorem strCells_one (l : List (List UInt8)) : ∀ u ∈ strCells l, u.oneCell' = true := by
  intro u hu
  unfold strCells at hu
  obtain ⟨s, _, rfl⟩ := List.mem_map.1 hu
  rfl
@[irreducible] def rputCells (l : List (Nat × List UInt8)) : List Value := l.flatMap fun p => [Value.int .i64 (p.1 : Int), .string (bs p.2)]
end Go.Proofs.YtoaihngckcbhiaaGreatDoor
namespace Go.Proofs.YtoaihngckcbhiaaGreatDoor
open Go.RowKit Go.Maps
end Go.Proofs.YtoaihngckcbhiaaGreatDoor
namespace Go.Proofs.YtoaihngckcbhiaaGreatDoor
open Go.RowKit Go.Maps
theorem str_info : (Tryz.prog.info? 9).map (fun i => (i.zero, i.size, i.bytes)) = some (some (.string ByteArray.empty), 1, 16) := by kernel_rfl
end Go.Proofs.YtoaihngckcbhiaaGreatDoor
namespace Go.Proofs.YtoaihngckcbhiaaGreatDoor
open Go.RowKit Go.Maps
end Go.Proofs.YtoaihngckcbhiaaGreatDoor
namespace Go.Proofs.YtoaihngckcbhiaaGreatDoor
open Go.RowKit Go.Maps
end Go.Proofs.YtoaihngckcbhiaaGreatDoor
namespace Go.Proofs.YtoaihngckcbhiaaGreatDoor
open Go.RowKit Go.Maps
end Go.Proofs.YtoaihngckcbhiaaGreatDoor
namespace Go.Proofs.YtoaihngckcbhiaaGreatDoor
open Go.RowKit Go.Maps
end Go.Proofs.YtoaihngckcbhiaaGreatDoor
namespace Go.Proofs.YtoaihngckcbhiaaGreatDoor
open Go.RowKit Go.Maps
end Go.Proofs.YtoaihngckcbhiaaGreatDoor
namespace Go.Proofs.YtoaihngckcbhiaaGreatDoor
open Go.RowKit Go.Maps
end Go.Proofs.YtoaihngckcbhiaaGreatDoor
namespace Go.Proofs.YtoaihngckcbhiaaGreatDoor
open Go.RowKit Go.Maps
end Go.Proofs.YtoaihngckcbhiaaGreatDoor
namespace Go.Proofs.YtoaihngckcbhiaaGreatDoor
open Go.RowKit Go.Maps
end Go.Proofs.YtoaihngckcbhiaaGreatDoor
