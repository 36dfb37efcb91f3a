/- maslinlaw04.text, walked. -/
import Derived.Test.YthbdflmckfgleaaDiskHeavy
namespace Go.Proofs.Ythbdflmckfgleaa
open Go.RowKit Go.Maps

/-- What a step writes. -/
def Stp.text (x : Stp) : List UInt8 := if x.raw then x.s else fill x.s (64 * x.n.toNat)
/-- A step, as a value. -/
def Stp.val (x : Stp) : Value := .agg #[.int .i64 x.what, .int .i64 x.place, .int .i64 x.n, .string (bs x.s), .bool x.raw]

set_option maxRecDepth 100000 in
set_option maxHeartbeats 1000000 in
theorem text_any (x : Stp) (w : World) (hs : x.s.length ≤ 1000000000) (h1 : (Lit.int .i64 x.n).wf = true) (h2 : x.raw = false → x.n ≤ 1000000) :
    Calls Try.prog 28 #[x.val] w fun e w' => e = .returned (.string (bs x.text)) ∧ Below w.heap.size w w' := by
  have h1' : -9223372036854775808 ≤ x.n ∧ x.n ≤ 9223372036854775807 := by
    simp [Lit.wf, IntKind.min, IntKind.max, IntKind.signed, IntKind.bits] at h1
    omega
  unfold Stp.val Stp.text
  generalize x.what = q0, x.place = q1, x.n = q2, x.s = q3, x.raw = q4 at *
  have hb0 := (Below.refl w.heap.size w).alloc (Nat.le_refl _) (.cells #[.int .i64 q0, .int .i64 q1, .int .i64 q2, .string (bs q3), .bool q4] 46)
  have HB := Lib.hid hb0
  clear hb0 h1
  cases q4 with
  | true =>
    go_enter Try.func28, Try.ntmps28
    go_wp2_with fail
    go_ret
    exact ⟨rfl, HB.out⟩
  | false =>
    have h2' := h2 rfl
    clear h2
    go_enter Try.func28, Try.ntmps28
    go_wp2_with fail
    refine (fill_any q3 q2 _ hs h1'.1 h2').mono ?_
    rintro e w1 ⟨rfl, hb⟩
    have HB2 := Lib.hid (HB.out.trans (hb.mono (by rw [World.size_alloc]; omega)))
    clear hb
    go_wp2_with fail
    go_ret
    exact ⟨rfl, HB2.out⟩
end Go.Proofs.Ythbdflmckfgleaa
