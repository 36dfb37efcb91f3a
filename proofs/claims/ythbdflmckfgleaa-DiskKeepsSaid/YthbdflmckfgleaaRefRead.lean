/- The document's disk: Read. -/
import Derived.Test.YthbdflmckfgleaaRefMore
namespace Go.Proofs.Ythbdflmckfgleaa
open Go.RowKit Go.Maps

set_option maxRecDepth 100000 in
set_option maxHeartbeats 1000000 in
theorem rread_any {w : World} {b : Nat} {D : Dsk} {fp : Nat → Prop} (h : RefAt w b D fp) (hlen : D.loose.length ≤ 1000000000) (a n : Int) (ha : -9223372036854775808 ≤ a ∧ a ≤ 9223372036854775807) (hn : -9223372036854775808 ≤ n ∧ n ≤ 9223372036854775807) :
    Calls Try.prog 69 #[.pointer (some ⟨b, 0, none⟩), .int .i64 a, .int .i64 n] w fun e w' => e = .returned (.tuple #[.string (bs (D.read a n).1), .int .i64 (D.read a n).2]) ∧ Below w.heap.size w w' := by
  obtain ⟨bv, lv, hI, rfl⟩ := h
  obtain ⟨_, _, _, c3, _⟩ := hI.cells
  have H := Lib.hid hI
  by_cases hd : D.down = true
  · have e : D.read a n = ([], 40) := by unfold Dsk.read; rw [if_pos hd]
    rw [e]
    rw [hd] at c3
    clear e hd
    go_enter Try.func69, Try.ntmps69
    go_wp2_with fail
    go_ret2
    exact ⟨rfl, Below.refl _ _⟩
  · have hd' : D.down = false := by simpa using hd
    rw [hd'] at c3
    cases hi : D.inside a n with
    | false =>
      have e : D.read a n = ([], 2) := by unfold Dsk.read; rw [if_neg hd, hi, if_neg (by decide)]
      rw [e]
      have HIN := Lib.hid hi
      clear e hd hd' hi
      go_enter Try.func69, Try.ntmps69
      go_wp2_with fail
      refine (rin_any hI a n ha.1 ha.2 hn.1 hn.2).mono ?_
      rw [HIN.out]
      rintro e w1 ⟨rfl, rfl⟩
      go_wp2_with fail
      go_ret2
      exact ⟨rfl, Below.refl _ _⟩
    | true =>
      have e : D.read a n = (Dsk.text D.now a.toNat n.toNat, 0) := by unfold Dsk.read; rw [if_neg hd, hi, if_pos rfl]
      rw [e]
      have h2 := hi
      simp only [Dsk.inside, Bool.and_eq_true, decide_eq_true_eq] at h2
      obtain ⟨A, rfl⟩ : ∃ A : Nat, a = (A : Int) := ⟨a.toNat, by omega⟩
      obtain ⟨M, rfl⟩ : ∃ M : Nat, n = (M : Int) := ⟨n.toNat, by omega⟩
      rw [Int.toNat_natCast, Int.toNat_natCast]
      have hAM : A + M ≤ D.n := by omega
      have hn2 := hI.fine.n2
      have hnow := hI.fine.now
      have HNOW := Lib.hid hnow
      have HIN := Lib.hid hi
      clear e hd hd' hi h2 hnow
      go_enter Try.func69, Try.ntmps69
      go_wp2_with fail
      refine (rin_any hI A M ha.1 ha.2 hn.1 hn.2).mono ?_
      rw [HIN.out]
      rintro e w1 ⟨rfl, rfl⟩
      clear hI
      go_wp2_with fail
      refine (rnow_any H.out hlen).mono ?_
      rintro e w1 ⟨sv, rfl, hrow, hb, _⟩
      have HB := Lib.hid hb
      have HR := Lib.hid hrow
      obtain ⟨q, cap, rfl⟩ := slice_len hrow
      clear hrow hb c3
      go_wp2_with fail
      go_loop [9, 10] (fun s i => ∃ k : Nat, k ≤ M ∧ i = .int .i64 ((A : Int) + (k : Int)) ∧ s = .string (bs (Dsk.text D.now A k))) (fun _ i => A + M - (intOf i).toNat)
      case atStart => exact ⟨0, by omega, by simp, rfl⟩
      case round =>
        obtain ⟨k, hk, rfl, rfl⟩ := hrel
        by_cases hlt : k < M
        · obtain ⟨g, rfl⟩ : ∃ g, q = some ⟨g, 0, none⟩ := by
            rcases HR.out.2 with ⟨e1, e2⟩ | ⟨g, _, _, e1, _⟩
            · omega
            · exact ⟨g, by injection e1⟩
          have hcell := HR.out.cells (g := g) rfl (A + k) _ (strCells_get _ _ (by rw [rowsN_length]; omega))
          rw [rowsN_get, add_plain] at hcell
          have hix := run_index_slice Try.prog 31 9 Try.underlying31 1 (by kernel_rfl) ⟨g, 0, none⟩ D.n cap (A + k) (by omega)
          rw [add_plain, Nat.mul_one, Int.natCast_add] at hix
          have HT := Lib.hid (Dsk.text_snoc D.now A k)
          have hl1 : (Dsk.text D.now A k).length = 64 * k := Dsk.len_in (fun i _ h2 => HNOW.out i (by omega))
          have hl2 : (D.now (A + k)).length = 64 := HNOW.out _ (by omega)
          generalize Dsk.text D.now A k = T at *
          generalize D.now (A + k) = X at *
          go_wp2_with fail
          refine ⟨⟨k + 1, by omega, ?_, by rw [HT.out]⟩, ?_⟩
          · rw [Int.natCast_add, Int.add_assoc]; rfl
          · show A + M - ((A : Int) + (k : Int) + 1).toNat < A + M - ((A : Int) + (k : Int)).toNat
            omega
        · obtain rfl : k = M := by omega
          go_wp2_with fail
          go_ret2
          exact ⟨rfl, HB.out⟩
end Go.Proofs.Ythbdflmckfgleaa
