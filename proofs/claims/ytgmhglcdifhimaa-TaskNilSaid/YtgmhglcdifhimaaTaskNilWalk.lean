/- maslinlaw30.TaskNil, walked. -/
import Derived.Test.YtgmhglcdifhimaaTaskMine
namespace Go.Proofs.Ytgmhglcdifhimaa
open Go.RowKit Go.Maps Go.Sort
open Tsk

set_option maxRecDepth 100000 in
set_option maxHeartbeats 4000000 in
theorem taskNil_any (W : World) (t : Int) (_ht : (Lit.int .i64 t).wf = true) (x : Int) (_hx : (Lit.int .i64 x).wf = true) (v : List UInt8) (_hv : v.length ≤ reachBytes) :
    Calls Try.prog 7 #[.int .i64 t, .int .i64 x, .string (bs v)] W fun e w' => e = .returned (.bool true) ∧ Below W.heap.size W w' := by
  clear _ht _hx _hv
  go_enter Try.func7, Try.ntmps7
  go_wp2_with fail
  refine (commit_nil x v _).mono ?_
  rintro e w1 ⟨rfl, rfl⟩
  go_wp2_with fail
  refine (stateP_nil t _).mono ?_
  rintro e w1 ⟨rfl, rfl⟩
  go_wp2_with fail
  refine (value_nil t _).mono ?_
  rintro e w1 ⟨rfl, rfl⟩
  go_wp2_with fail
  refine (at_nil x _).mono ?_
  rintro e w1 ⟨rfl, rfl⟩
  go_wp2_with fail
  refine (over_nil _).mono ?_
  rintro e w1 ⟨rfl, rfl⟩
  go_wp2_with fail
  refine (start_nil t x _).mono ?_
  rintro e w1 ⟨rfl, rfl⟩
  go_wp2_with fail
  refine (fail_nil x _).mono ?_
  rintro e w1 ⟨rfl, rfl⟩
  go_wp2_with fail
  refine (workers_nil t _).mono ?_
  rintro e w1 ⟨rfl, rfl⟩
  go_wp2_with fail
  refine (ready_nil _).mono ?_
  rintro e w1 ⟨rfl, rfl⟩
  go_wp2_with fail
  refine (fails_nil t _).mono ?_
  rintro e w1 ⟨rfl, rfl⟩
  go_wp2_with fail
  refine (done_nil _).mono ?_
  rintro e w1 ⟨rfl, rfl⟩
  go_wp2_with fail
  refine (alive30_any _).mono ?_
  rintro e w1 ⟨rfl, hb⟩
  have HB := Lib.hid hb
  clear hb
  go_wp2_with fail
  go_ret
  exact ⟨rfl, HB.out⟩
end Go.Proofs.Ytgmhglcdifhimaa
