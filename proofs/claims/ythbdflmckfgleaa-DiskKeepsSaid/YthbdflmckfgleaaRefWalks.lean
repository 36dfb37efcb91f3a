/- The document's disk: small methods; what is read. -/
import Derived.Test.YthbdflmckfgleaaRefRep
import Derived.Test.YthbdflmckfgleaaDiskFill
import Derived.Deep.RegionHeld3
import Derived.Maps.AppendAt
namespace Go.Proofs.Ythbdflmckfgleaa
open Go.RowKit Go.Maps

/-- The first N sectors, as texts. -/
def rowsN (f : Nat → List UInt8) (N : Nat) : List (List UInt8) := (List.range N).map f
theorem rowsN_length (f : Nat → List UInt8) (N : Nat) : (rowsN f N).length = N := by simp [rowsN]
theorem rowsN_get (f : Nat → List UInt8) (N i : Nat) (h : i < (rowsN f N).length) : (rowsN f N)[i] = f i := by simp [rowsN]
theorem rowsN_set (f : Nat → List UInt8) (N i : Nat) (x : List UInt8) : (rowsN f N).set i x = rowsN (fun k => if k = i then x else f k) N := by
  apply List.ext_getElem
  · simp [rowsN]
  · intro j h1 h2
    rw [List.getElem_set]
    simp only [rowsN, List.getElem_map, List.getElem_range]
    by_cases h : i = j
    · subst h; simp
    · rw [if_neg h, if_neg (fun e => h e.symm)]
theorem ownsRow_set {w : World} {base : Nat} {e : TypeId} {g n cap : Nat} {xs : List Value} (h : w.ownsRow base e 1 (.slice (some ⟨g, 0, none⟩) n cap) n xs) (i : Nat) (v : Value) : (w.setCell ⟨g, i, none⟩ v).ownsRow base e 1 (.slice (some ⟨g, 0, none⟩) n cap) n (xs.set i v) := by
  obtain ⟨h1, h2⟩ := h
  refine ⟨by rw [List.length_set]; exact h1, ?_⟩
  rcases h2 with ⟨e1, _⟩ | ⟨g', cap', cur, e1, hb, hg, hn, hm, hcs, ht⟩
  · cases e1
  · injection e1 with e2 _ e3
    injection e2 with e4
    injection e4 with e5
    subst e5; subst e3
    refine .inr ⟨g, cap, cur.setIfInBounds i v, rfl, hb, heap_setCell_same w g i _ _ v hg, hn, hm, by rw [Array.size_setIfInBounds]; exact hcs, ?_⟩
    rw [Array.toList_setIfInBounds, ← ht, List.take_set]

set_option maxRecDepth 100000 in
theorem zero_any (w : World) : Calls Try.prog 72 #[] w fun e w' => e = .returned (.string (bs sec0)) ∧ Below w.heap.size w w' := by
  obtain ⟨C, hmk0, hrow⟩ := u8_made w 64 (by omega)
  have hmk : (Instr.makeSlice 35 (.int .i64 64) (.int .i64 64)).run Try.prog w = .ok (.slice (some ⟨w.heap.size, 0, none⟩) 64 64) (w.alloc (.cells C 5)) := hmk0
  clear hmk0
  have hb := (Below.refl w.heap.size w).alloc (Nat.le_refl _) (.cells C 5)
  have hbytes := run_bytes_bs Try.prog (w.alloc (.cells C 5)) 35 5 9 Try.underlying35 Try.underlying5 Try.underlying9 w.heap.size 0 64 64 sec0 rfl (fun i h => by rw [Nat.zero_add]; exact hrow.cell i h)
  have HB := Lib.hid hb
  clear hb hrow
  go_enter Try.func72, Try.ntmps72
  go_wp2_with fail
  go_ret
  exact ⟨rfl, HB.out⟩
set_option maxRecDepth 100000 in
theorem may_any (n : Int) (w : World) : Calls Try.prog 37 #[.int .i64 n] w fun e w' => e = .returned (.bool (decide (1 ≤ n) && decide (n ≤ 16384))) ∧ w = w' := by
  by_cases h1 : 1 ≤ n
  · by_cases h2 : n ≤ 16384
    all_goals
      go_enter Try.func37, Try.ntmps37
      go_wp2_with fail
      go_ret
      exact ⟨by first | (simp [*]; done) | (simp; omega), rfl⟩
  · go_enter Try.func37, Try.ntmps37
    go_wp2_with fail
    go_ret
    exact ⟨by first | (simp [*]; done) | (simp; omega), rfl⟩
theorem slice_len {w : World} {base e s : Nat} {v : Value} {n : Nat} {xs : List Value} (h : w.ownsRow base e s v n xs) : ∃ q cap, v = .slice q n cap := by
  rcases h.2 with ⟨e1, e2⟩ | ⟨g, cap, _, e1, _⟩
  · exact ⟨none, 0, by rw [e1, e2]⟩
  · exact ⟨_, cap, e1⟩
set_option maxRecDepth 100000 in
set_option maxHeartbeats 1000000 in
theorem rin_any {w : World} {b : Nat} {bv lv : Value} {D : Dsk} (h : RefIn w b bv lv D) (at_ n : Int) (_h1 : -9223372036854775808 ≤ at_) (_h2 : at_ ≤ 9223372036854775807) (_h3 : -9223372036854775808 ≤ n) (_h4 : n ≤ 9223372036854775807) :
    Calls Try.prog 75 #[.pointer (some ⟨b, 0, none⟩), .int .i64 at_, .int .i64 n] w fun e w' => e = .returned (.bool (D.inside at_ n)) ∧ w = w' := by
  obtain ⟨c0, _, _, _, _⟩ := h.cells
  obtain ⟨q, cap, rfl⟩ := slice_len h.base
  have hN := h.fine.n2
  generalize hNN : D.n = N at *
  have hI : Hid (D.inside at_ n = (decide (0 ≤ at_) && decide (0 ≤ n) && decide (at_ ≤ N) && decide (n ≤ N - at_))) := Lib.hid (by unfold Dsk.inside; rw [hNN])
  clear h hNN
  by_cases a1 : 0 ≤ at_
  · by_cases a2 : 0 ≤ n
    · by_cases a3 : at_ ≤ N
      · by_cases a4 : n ≤ N - at_
        all_goals
          go_enter Try.func75, Try.ntmps75
          go_wp2_with fail
          go_ret
          exact ⟨by rw [hI.out]; first | (simp [*]; done) | (simp; omega), rfl⟩
      · go_enter Try.func75, Try.ntmps75
        go_wp2_with fail
        go_ret
        exact ⟨by rw [hI.out]; first | (simp [*]; done) | (simp; omega), rfl⟩
    · go_enter Try.func75, Try.ntmps75
      go_wp2_with fail
      go_ret
      exact ⟨by rw [hI.out]; first | (simp [*]; done) | (simp; omega), rfl⟩
  · go_enter Try.func75, Try.ntmps75
    go_wp2_with fail
    go_ret
    exact ⟨by rw [hI.out]; first | (simp [*]; done) | (simp; omega), rfl⟩
end Go.Proofs.Ythbdflmckfgleaa
