/- maslinlaw31.value, walked. -/
import Derived.Test.YtgmhglcdifhimaaDoorSchedSteps
namespace Go.Proofs.YtgmhglcdifhimaaDoor
open Go.RowKit Go.Maps Go.Sort
open Tsk

/-- A task's value, as the laws have it. -/
def valueOf (t : Nat) : List UInt8 := [118, UInt8.ofNat (48 + t / 10), UInt8.ofNat (48 + t % 10)]
set_option maxRecDepth 100000 in
theorem value_any (t : Nat) (ht : t < 100000) (w : World) : Calls Tryd.prog 19 #[.int .i64 (t : Int)] w fun e w' => e = .returned (.string (bs (valueOf t))) ∧ Below w.heap.size w w' := by
  have hrow : RowAt (w.alloc (.cells #[.int .u8 ((UInt8.ofNat (48 + t / 10)).toNat : Int), .int .u8 ((UInt8.ofNat (48 + t % 10)).toNat : Int)] 5)) w.heap.size 5 [.int .u8 ((UInt8.ofNat (48 + t / 10)).toNat : Int), .int .u8 ((UInt8.ofNat (48 + t % 10)).toNat : Int)] := RowAt.made w _ _
  have hstr := run_bytes_bs Tryd.prog (w.alloc (.cells #[.int .u8 ((UInt8.ofNat (48 + t / 10)).toNat : Int), .int .u8 ((UInt8.ofNat (48 + t % 10)).toNat : Int)] 5)) 94 5 9 Tryd.underlying94 Tryd.underlying5 Tryd.underlying9 w.heap.size 0 2 2 [UInt8.ofNat (48 + t / 10), UInt8.ofNat (48 + t % 10)] rfl (fun i hi => by
    match i, hi with
    | 0, _ => exact hrow.cell 0 (by simp)
    | 1, _ => exact hrow.cell 1 (by simp))
  clear hrow
  have e1 : ((UInt8.ofNat (48 + t / 10)).toNat : Int) = (48 + (t : Int) / 10) % 256 := by rw [u8_ofNat]; omega
  have e2 : ((UInt8.ofNat (48 + t % 10)).toNat : Int) = 48 + (t : Int) % 10 := by rw [u8_ofNat]; omega
  rw [e1, e2] at hstr
  clear e1 e2
  obtain ⟨L, hL⟩ : ∃ L, L = [UInt8.ofNat (48 + t / 10), UInt8.ofNat (48 + t % 10)] := ⟨_, rfl⟩
  rw [← hL] at hstr
  have HV := Lib.hid (show valueOf t = [118] ++ L from by rw [hL]; rfl)
  have hLl : L.length = 2 := by rw [hL]; rfl
  clear hL
  go_enter Tryd.func19, Tryd.ntmps19
  go_wp2_with fail
  go_ret
  refine ⟨?_, (Below.refl _ _).alloc (Nat.le_refl _) _⟩
  rw [HV.out, ← bs_append]
  rfl
end Go.Proofs.YtgmhglcdifhimaaDoor
