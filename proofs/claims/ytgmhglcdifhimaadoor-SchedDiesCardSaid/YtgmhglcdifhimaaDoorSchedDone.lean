/- maslinlaw31.done, walked. -/
import Derived.Test.YtgmhglcdifhimaaDoorSchedMine
namespace Go.Proofs.YtgmhglcdifhimaaDoor
open Go.RowKit Go.Maps Go.Sort
open Tsk

section
variable {w0 w w' : World} {P p m g : Nat} {lv vv : Value} {nvs : List Value} {M M' : Sch.Master} {k : Nat}
set_option maxRecDepth 100000 in
theorem done31_any (h : MyM w0 w P p m lv nvs vv M k) (hk : k ≤ 1000000) (t : Nat) (ht : t < M.b.l.length) :
    Calls Tryd.prog 16 #[.pointer (some ⟨P, 0, none⟩), .int .i64 (t : Int)] w fun e w' => e = .returned (.bool (M.b.state t == 3)) ∧ Below w.heap.size w w' := by
  have HB := Lib.hid (board_any h.mast)
  have HS := Lib.hid (stateP_in h.mast.board h.fine hk t ht)
  clear h ht
  generalize M.b.state t = s at *
  go_enter Tryd.func16, Tryd.ntmps16
  go_wp2_with fail
  refine HB.out.mono ?_
  rintro e w1 ⟨rfl, rfl⟩
  go_wp2_with fail
  refine HS.out.mono ?_
  rintro e w1 ⟨rfl, hb⟩
  have HBE := Lib.hid hb
  clear hb HS HB
  go_wp2_with fail
  go_ret
  exact ⟨rfl, HBE.out⟩
end
end Go.Proofs.YtgmhglcdifhimaaDoor
