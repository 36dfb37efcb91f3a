/- The document's disk: Write, every case. -/
import Derived.Test.YthbdflmckfgleaaRefWriteIn
namespace Go.Proofs.Ythbdflmckfgleaa
open Go.RowKit Go.Maps

set_option maxRecDepth 100000 in
set_option maxHeartbeats 1000000 in
theorem rwrite_any {w : World} {b : Nat} {D : Dsk} {fp : Nat → Prop} (h : RefAt w b D fp) (a : Int) (s : List UInt8) (ha : -9223372036854775808 ≤ a ∧ a ≤ 9223372036854775807) (hl : s.length ≤ 1000000000) (hloose : D.loose.length + s.length / 64 ≤ 1000000000) :
    Calls Try.prog 43 #[.pointer (some ⟨b, 0, none⟩), .int .i64 a, .string (bs s)] w fun e w' => e = .returned (.int .i64 (D.write a s).2) ∧ ∃ fp', RefAt w' b (D.write a s).1 fp' ∧ Upd fp w w' ∧ Stays fp fp' w := by
  obtain ⟨bv, lv, hI, rfl⟩ := h
  obtain ⟨_, _, _, c3, _⟩ := hI.cells
  by_cases hd : D.down = true
  · have hW : D.write a s = (D, 40) := by unfold Dsk.write; rw [if_pos hd]
    rw [hW]
    rw [hd] at c3
    have HI := Lib.hid hI
    clear hW hd hI
    go_enter Try.func43, Try.ntmps43
    go_wp2_with fail
    go_ret
    exact ⟨rfl, _, ⟨bv, lv, HI.out, rfl⟩, Upd.refl _ _, fun _ h => .inl h⟩
  · have hd' : D.down = false := by simpa using hd
    by_cases hc : s.length % 64 = 0 ∧ D.inside a (s.length / 64 : Nat) = true
    · have hW : D.write a s = Dsk.writes D a.toNat s (s.length / 64) := by unfold Dsk.write; rw [if_neg hd, if_pos hc]
      obtain ⟨h1, h2⟩ := hc
      have h3 := h2
      simp only [Dsk.inside, Bool.and_eq_true, decide_eq_true_eq] at h3
      have e : a = (a.toNat : Int) := by omega
      rw [hW]
      have hE := rwrite_in hI a.toNat s hd' (s.length / 64) (by omega) (by rw [← e]; exact h2) hloose
      rw [← e] at hE
      refine hE.mono ?_
      rintro e w1 ⟨rfl, lv', g1, g2, g3⟩
      exact ⟨rfl, _, ⟨bv, lv', g1, rfl⟩, g2, g3⟩
    · have hW : D.write a s = (D, 2) := by unfold Dsk.write; rw [if_neg hd, if_neg hc]
      rw [hW]
      rw [hd'] at c3
      have HI := Lib.hid hI
      by_cases hr : (s.length : Int) % 64 = 0
      · have hin : D.inside a (s.length / 64 : Nat) = false := by
          rcases hb : D.inside a (s.length / 64 : Nat) with _ | _
          · rfl
          · exact absurd ⟨by omega, hb⟩ hc
        have HIN := Lib.hid hin
        clear hW hd hd' hc hin
        have hq : ((s.length : Int) / 64) = ((s.length / 64 : Nat) : Int) := by omega
        generalize s.length / 64 = n at *
        go_enter Try.func43, Try.ntmps43
        go_wp2_with fail
        refine (rin_any hI a n (by omega) (by omega) (by omega) (by omega)).mono ?_
        rw [HIN.out]
        rintro e w1 ⟨rfl, rfl⟩
        clear hI
        go_wp2_with fail
        go_ret
        exact ⟨rfl, _, ⟨bv, lv, HI.out, rfl⟩, Upd.refl _ _, fun _ h => .inl h⟩
      · clear hW hd hd' hc hI
        go_enter Try.func43, Try.ntmps43
        go_wp2_with fail
        go_ret
        exact ⟨rfl, _, ⟨bv, lv, HI.out, rfl⟩, Upd.refl _ _, fun _ h => .inl h⟩
end Go.Proofs.Ythbdflmckfgleaa
