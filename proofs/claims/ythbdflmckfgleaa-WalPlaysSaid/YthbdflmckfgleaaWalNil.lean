/- maslin/wal: what a nil log answers; a list of one step. -/
import Derived.Test.YthbdflmckfgleaaWalHeavy
import Derived.Test.YthbdflmckfgleaaWalMore
import Derived.Test.YthbdflmckfgleaaRegionT
namespace Go.Proofs.Ythbdflmckfgleaa
open Go.RowKit Go.Maps
open Wal

set_option maxRecDepth 100000 in
theorem nilCheck_any (w : World) : Calls Try.prog 84 #[.pointer none] w fun e w' => e = .returned (.int .i64 1) ∧ w = w' := by
  go_enter Try.func84, Try.ntmps84
  go_wp2_with fail
  go_ret
  exact ⟨rfl, rfl⟩
set_option maxRecDepth 100000 in
theorem nilAppend_any (v : Value) (w : World) : Calls Try.prog 49 #[.pointer none, v] w fun e w' => e = .returned (.int .i64 1) ∧ Below w.heap.size w w' := by
  have hb := (Below.refl w.heap.size w).alloc (Nat.le_refl _) (.cells #[.pointer none] 64)
  have HB := Lib.hid hb
  clear hb
  go_enter Try.func49, Try.ntmps49
  go_wp2_with fail
  refine (nilCheck_any _).mono ?_
  rintro e w1 ⟨rfl, rfl⟩
  go_wp2_with fail
  go_ret
  exact ⟨rfl, by first | exact HB.out | exact Below.refl _ _⟩
set_option maxRecDepth 100000 in
theorem nilReset_any (w : World) : Calls Try.prog 50 #[.pointer none] w fun e w' => e = .returned (.int .i64 1) ∧ Below w.heap.size w w' := by
  have hb := (Below.refl w.heap.size w).alloc (Nat.le_refl _) (.cells #[.pointer none] 64)
  have HB := Lib.hid hb
  clear hb
  go_enter Try.func50, Try.ntmps50
  go_wp2_with fail
  refine (nilCheck_any _).mono ?_
  rintro e w1 ⟨rfl, rfl⟩
  go_wp2_with fail
  go_ret
  exact ⟨rfl, by first | exact HB.out | exact Below.refl _ _⟩
set_option maxRecDepth 100000 in
theorem nilGroups_any (w : World) : Calls Try.prog 51 #[.pointer none] w fun e w' => e = .returned (.slice none 0 0) ∧ w = w' := by
  go_enter Try.func51, Try.ntmps51
  go_wp2_with fail
  go_ret
  exact ⟨rfl, rfl⟩
set_option maxRecDepth 100000 in
theorem nilGen_any (w : World) : Calls Try.prog 53 #[.pointer none] w fun e w' => e = .returned (.int .u64 0) ∧ w = w' := by
  go_enter Try.func53, Try.ntmps53
  go_wp2_with fail
  go_ret
  exact ⟨rfl, rfl⟩
set_option maxRecDepth 100000 in
theorem nilRoom_any (w : World) : Calls Try.prog 54 #[.pointer none] w fun e w' => e = .returned (.int .i64 0) ∧ w = w' := by
  go_enter Try.func54, Try.ntmps54
  go_wp2_with fail
  go_ret
  exact ⟨rfl, rfl⟩
set_option maxRecDepth 100000 in
theorem nilFault_any (w : World) : Calls Try.prog 48 #[.pointer none] w fun e w' => e = .returned (.int .i64 0) ∧ w = w' := by
  go_enter Try.func48, Try.ntmps48
  go_wp2_with fail
  go_ret
  exact ⟨rfl, rfl⟩

theorem wsteps_lit {w : World} {g : Nat} {v : Value} {l : List (List UInt8)} (h : w.heap[g]? = some (.cells #[.int .i64 0, .int .i64 0, v, .string (bs [])] 76)) (hv : TextsIn w v l) : WStepsAt w (some ⟨g, 0, none⟩) [⟨0, 0, l, []⟩] := fun i hi => by
  obtain rfl : i = 0 := by simpa using hi
  refine ⟨_, rfl, ?_⟩
  have c : ∀ j x, (#[Value.int .i64 0, .int .i64 0, v, .string (bs [])] : Array Value)[j]? = some x → w.cell? ((((⟨g, 0, none⟩ : Addr).add (0 * 4))).add j) = some x := fun j x hx => by
    rw [Nat.zero_mul, add_zero', add_plain, cell_of_row w g _ _ _ _ h]
    exact hx
  exact ⟨c 0 _ rfl, c 1 _ rfl, ⟨v, c 2 _ rfl, hv⟩, c 3 _ rfl⟩

section
variable {P : Program} {ops : Array Oper} {Q : Exit → Act → World → Prop} {md : Region.Mode} {S S2 : World → Prop}
theorem wpAnyH_mono (hS : ∀ w, S2 w → S w) : ∀ (fuel : Nat) (listed : Array Bool) (a : Act) (w : World), wpAnyH P md ops Q S2 fuel listed a w → wpAnyH P md ops Q S fuel listed a w
  | 0, _, _, _, h => h
  | fuel + 1, _, _, _, h => ⟨h.1, fun i hi => wpOp_mono (fun a' w' h' => ⟨hS _ h'.1, wpAnyH_mono hS fuel _ a' w' h'.2⟩) (h.2 i hi)⟩
theorem wpAnyH_one {i : Nat} {o : Oper} {fuel : Nat} {listed : Array Bool} {a : Act} {w : World} (hr : Region.ready md ops listed = [i]) (ho : ops[i]? = some o)
    (h : ∀ K' : Act → World → Prop, Shut (∀ a w, S w → wpAnyH P md ops Q S fuel (listed.setIfInBounds i true) a w → K' a w) → if Region.wanted o (yielded ops a.tmps) = true then Oper.wp P o a w K' Q else K' (a.put o.dst undef) w) :
    wpAnyH P md ops Q S (fuel + 1) listed a w :=
  ⟨fun h0 => (by rw [hr] at h0; cases h0), fun j hj => by
    rw [hr, List.mem_singleton] at hj
    subst hj
    exact wpOp_step ho (fun K' hK => h K' (fun a w hS hW => hK a w ⟨hS, hW⟩))⟩
end
end Go.Proofs.Ythbdflmckfgleaa
