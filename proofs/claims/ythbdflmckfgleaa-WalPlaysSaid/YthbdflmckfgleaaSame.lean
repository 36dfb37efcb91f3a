/- maslinlaw04.Same, walked. -/
import Derived.Test.YthbdflmckfgleaaBoth
import Derived.BigQuiet
namespace Go.Proofs.Ythbdflmckfgleaa
open Go.RowKit Go.Maps

theorem below_drewN (w : World) (n : Nat) : Below w.heap.size w (w.drewN n) := ⟨rfl, rfl, rfl, Nat.le_refl _, fun _ _ => rfl⟩

section
variable {B : Nat} {w0 w : World} {b r : Nat} {D R : Dsk} {fp fr : Nat → Prop}
set_option maxRecDepth 100000 in
set_option maxHeartbeats 1000000 in
theorem same_any (h : Both B w0 w b D fp r D fr) (hd : D.loose.length ≤ 50000000) :
    Calls Try.prog 38 #[.pointer (some ⟨b, 0, none⟩), .pointer (some ⟨r, 0, none⟩)] w fun e w' => e = .returned (.bool true) ∧ Below w.heap.size w w' := by
  obtain ⟨bv, lv, hI, hfr⟩ := h.ref
  obtain ⟨c0, c1, _, c3, _⟩ := hI.cells
  obtain ⟨q0, cap0, rfl⟩ := slice_len hI.base
  obtain ⟨q1, cap1, rfl⟩ := slice_len hI.loose
  have hn2 := hI.fine.n2
  have hrb := hI.lt r (.inl rfl)
  have H := Lib.hid h
  have kA := fun (n : Nat) => (loose_any (h.my.disk.below (below_drewN w n))).mono (R' := fun e w' => e = .returned (.int .i64 (D.loose.length : Int)) ∧ w' = w.drewN n) (fun _ _ g => ⟨g.1, g.2.symm⟩)
  have kB := fun (n : Nat) => (down_any (h.my.disk.below (below_drewN w n))).mono (R' := fun e w' => e = .returned (.bool D.down) ∧ w' = w.drewN n) (fun _ _ g => ⟨g.1, g.2.symm⟩)
  have kC := fun (n : Nat) => (sectors_any (h.my.disk.below (below_drewN w n))).mono (R' := fun e w' => e = .returned (.int .i64 (D.n : Int)) ∧ w' = w.drewN n) (fun _ _ g => ⟨g.1, g.2.symm⟩)
  have KA := Lib.hid kA
  have KB := Lib.hid kB
  have KC := Lib.hid kC
  clear h hI hfr kA kB kC
  go_enter Try.func38, Try.ntmps38
  go_wp2_with fail
  go_quiet ((first
    | (go_at_call 26; exact Calls.quiet_of_same (KA.out _))
    | (go_at_call 31; exact Calls.quiet_of_same (KB.out _))
    | (go_at_call 41; exact Calls.quiet_of_same (KC.out _))))
  go_wp2_with fail
  refine (read_my (H.out.my.step (below_drewN w _)) 0 D.n (by omega) (by omega)).mono ?_
  rintro e w1 ⟨rfl, hb⟩
  have hB := (below_drewN w _).trans (hb.mono (Nat.le_refl _))
  have HB := Lib.hid hB
  have hc0 : w1.cell? ⟨r, 0, none⟩ = some (.slice q0 D.n cap0) := (hB.cell (p := ⟨r, 0, none⟩) hrb).trans c0
  generalize hA : D.read 0 D.n = A
  have HA := Lib.hid hA
  clear hb hB hA
  go_wp2_with fail
  refine (rread_any (H.out.step HB.out).ref (by omega) 0 D.n (by omega) (by omega)).mono ?_
  rw [HA.out]
  rintro e w2 ⟨rfl, hb⟩
  have HB2 := Lib.hid (HB.out.trans (hb.mono HB.out.size))
  clear hb
  go_wp2_with fail
  go_ret
  exact ⟨rfl, HB2.out⟩
end
end Go.Proofs.Ythbdflmckfgleaa
