/- DiskFill -/
import Derived.Test.YtoaihngckcbhiaaGreatDoorPkDiskRep
import Derived.Deep.RegionLaw
import Derived.Laws.MakeOwn
namespace Go.Proofs.YtoaihngckcbhiaaGreatDoor
open Go.RowKit Go.Maps
def fillTo (s : List UInt8) (k N : Nat) : List UInt8 := (List.range N).map fun i => if i < k then s.getD (i % s.length) 0 else 0
def fill (s : List UInt8) (N : Nat) : List UInt8 := (List.range N).map fun i => s.getD (i % s.length) 0
@[simp] theorem fillTo_length (s : List UInt8) (k N : Nat) : (fillTo s k N).length = N := by simp [fillTo]
@[simp] theorem fill_length (s : List UInt8) (N : Nat) : (fill s N).length = N := by simp [fill]
theorem u8_made (w : World) (n : Nat) (hn : n ≤ 1000000000) : ∃ C, (Instr.makeSlice 176 (.int .i64 (n : Int)) (.int .i64 (n : Int))).run Tryz.prog w = .ok (.slice (some ⟨w.heap.size, 0, none⟩) n n) (w.alloc (.cells C 5)) ∧
    BytesAt (w.alloc (.cells C 5)) w.heap.size (List.replicate n 0) := by
  have hinfo : (Tryz.prog.info? 5).map (fun i => (i.zero, i.size, i.bytes)) = some (some (.int .u8 0), 1, 1) := by kernel_rfl
  obtain ⟨i0, hi, hz0, hz1, hz2⟩ := info_parts hinfo
  have hrun := run_make (P := Tryz.prog) w 176 5 i0 _ Tryz.underlying176 hi hz0 .i64 .i64 n n (by omega) (Int.le_refl _) (by rw [hz2]; omega) (by omega)
  rw [Int.toNat_natCast] at hrun
  refine ⟨_, hrun, bytes_row_new w _ _ _ (fun i hi => ?_)⟩
  rw [List.length_replicate] at hi
  rw [hz1, List.getElem_replicate]
  simp [madeCells, Value.cells]
  exact ⟨i, by rw [Array.getElem?_range, if_pos hi], by rw [Nat.mod_one]; rfl⟩
end Go.Proofs.YtoaihngckcbhiaaGreatDoor
