/- The small methods of a disk, walked: New, up, in, Sectors, Loose, Down, Fuse. -/
import Derived.Test.YtdmbadkpendfhaaGreatDoorDiskRep
import Derived.BigQuiet
import Derived.Deep.QuietTactic
import Derived.WalkSpells
namespace Go.Proofs.YtdmbadkpendfhaaGreatDoor
open Go.RowKit Go.Maps

theorem DiskIn.cells {w : World} {b m : Nat} {lv : Value} {D : Dsk} (h : DiskIn w b m lv D) :
    w.cell? ⟨b, 0, none⟩ = some (.int .i64 (D.n : Int)) ∧ w.cell? ⟨b, 1, none⟩ = some (.map (some m)) ∧ w.cell? ⟨b, 2, none⟩ = some lv ∧ w.cell? ⟨b, 3, none⟩ = some (.int .i64 D.left) ∧ w.cell? ⟨b, 4, none⟩ = some (.bool D.down) ∧ ∀ j, w.frozen? ⟨b, j, none⟩ = false := by
  refine ⟨?_, ?_, ?_, ?_, ?_, fun j => frozen_of_row w b j _ _ h.struct⟩ <;> rw [cell_of_row w b _ _ _ _ h.struct] <;> rfl

set_option maxRecDepth 100000 in
set_option maxHeartbeats 400000 in
theorem new_ok (n : Nat) (w : World) (h1 : 1 ≤ n) (h2 : n ≤ 16384) :
    Calls Tryz.prog 75 #[.int .i64 n] w fun e w' => ∃ b fp, e = .returned (.tuple #[.pointer (some ⟨b, 0, none⟩), .int .i64 0]) ∧ DiskAt w' b (Dsk.new n) fp ∧ Below w.heap.size w w' ∧ ∀ k, fp k → w.heap.size ≤ k := by
  have hmm := @run_makeMap Tryz.prog
  go_enter Tryz.func75, Tryz.ntmps75
  go_wp2_with fail
  go_ret2
  refine ⟨w.heap.size + 1, diskBlocks (w.heap.size + 1) w.heap.size (.slice none 0 0), ?_, ⟨w.heap.size, .slice none 0 0, ⟨?_, ?_, ?_, ?_, ?_, ?_, ?_⟩, rfl⟩, ?_, ?_⟩
  · rfl
  · exact heap_alloc2_new w _ _
  · exact (SecMap.made w n).kept (heap_alloc_old _ _ (by simp))
  · exact ⟨by simp [Dsk.new, looseCells_nil], .inl ⟨rfl, rfl⟩⟩
  · omega
  · simp [Value.ownBlock]
  · simp [Value.ownBlock]
  · exact Dsk.Fine.new h1 h2
  · exact ((Below.refl _ _).alloc (Nat.le_refl _) _).alloc (by simp) _
  · rintro k (rfl | rfl | hk)
    · omega
    · exact Nat.le_refl _
    · simp [Value.ownBlock] at hk

set_option maxRecDepth 100000 in
set_option maxHeartbeats 400000 in
theorem up_nil (w : World) : Calls Tryz.prog 147 #[.pointer none] w fun e w' => e = .returned (.int .i64 1) ∧ w = w' := by
  go_enter Tryz.func147, Tryz.ntmps147
  go_wp2_with fail
  go_ret
  exact ⟨rfl, rfl⟩

set_option maxRecDepth 100000 in
set_option maxHeartbeats 400000 in
theorem up_any {w : World} {b m : Nat} {lv : Value} {D : Dsk} (h : DiskIn w b m lv D) : Calls Tryz.prog 147 #[.pointer (some ⟨b, 0, none⟩)] w fun e w' => e = .returned (.int .i64 D.up) ∧ w = w' := by
  obtain ⟨c0, c1, c2, c3, c4, cf⟩ := h.cells
  obtain ⟨n, f, l, q, d⟩ := D
  simp only at c4
  clear c0 c1 c2 c3 cf
  cases d
  · go_enter Tryz.func147, Tryz.ntmps147
    go_wp2_with fail
    go_ret
    exact ⟨rfl, rfl⟩
  · go_enter Tryz.func147, Tryz.ntmps147
    go_wp2_with fail
    go_ret
    exact ⟨rfl, rfl⟩

set_option maxRecDepth 100000 in
set_option maxHeartbeats 400000 in
theorem new_no (n : Int) (w : World) (h : n < 1 ∨ 16384 < n) :
    Calls Tryz.prog 75 #[.int .i64 n] w fun e w' => e = .returned (.tuple #[.pointer none, .int .i64 2]) ∧ w = w' := by
  by_cases h1 : n < 1
  · have hd : decide (n < 1) = true := by simpa using h1
    go_enter Tryz.func75, Tryz.ntmps75
    go_wp2_with fail
    go_ret2
    exact ⟨rfl, rfl⟩
  · have h2 : 16384 < n := by omega
    have hd : decide (n < 1) = false := by simpa using h1
    go_enter Tryz.func75, Tryz.ntmps75
    go_wp2_with fail
    go_ret2
    exact ⟨rfl, rfl⟩

set_option maxRecDepth 100000 in
set_option maxHeartbeats 400000 in
theorem in_any {w : World} {b m : Nat} {lv : Value} {D : Dsk} (h : DiskIn w b m lv D) (at_ n : Int) (_h1 : -9223372036854775808 ≤ at_) (_h2 : at_ ≤ 9223372036854775807) (_h3 : -9223372036854775808 ≤ n) (_h4 : n ≤ 9223372036854775807) :
    Calls Tryz.prog 148 #[.pointer (some ⟨b, 0, none⟩), .int .i64 at_, .int .i64 n] w fun e w' => e = .returned (.bool (D.inside at_ n)) ∧ w = w' := by
  obtain ⟨c0, _, _, _, _, _⟩ := h.cells
  have hN := h.fine.n2
  generalize hNN : D.n = N at *
  have HN := Lib.hid hNN
  clear hNN
  by_cases a1 : 0 ≤ at_
  · have d1 : decide (0 ≤ at_) = true := by simpa using a1
    by_cases a2 : 0 ≤ n
    · have d2 : decide (0 ≤ n) = true := by simpa using a2
      by_cases a3 : at_ ≤ (N : Int)
      · have d3 : decide (at_ ≤ (N : Int)) = true := by simpa using a3
        by_cases a4 : n ≤ (N : Int) - at_
        · have d4 : decide (n ≤ (N : Int) - at_) = true := by simpa using a4
          have HI : Hid (D.inside at_ n = true) := Lib.hid (by unfold Dsk.inside; rw [HN.out, d1, d2, d3, d4]; rfl)
          go_enter Tryz.func148, Tryz.ntmps148
          go_wp2_with fail
          go_ret
          rw [HI.out]
          exact ⟨rfl, rfl⟩
        · have d4 : decide (n ≤ (N : Int) - at_) = false := by simpa using a4
          have HI : Hid (D.inside at_ n = false) := Lib.hid (by unfold Dsk.inside; rw [HN.out, d1, d2, d3, d4]; rfl)
          go_enter Tryz.func148, Tryz.ntmps148
          go_wp2_with fail
          go_ret
          rw [HI.out]
          exact ⟨rfl, rfl⟩
      · have d3 : decide (at_ ≤ (N : Int)) = false := by simpa using a3
        have HI : Hid (D.inside at_ n = false) := Lib.hid (by unfold Dsk.inside; rw [HN.out, d1, d2, d3]; rfl)
        go_enter Tryz.func148, Tryz.ntmps148
        go_wp2_with fail
        go_ret
        rw [HI.out]
        exact ⟨rfl, rfl⟩
    · have d2 : decide (0 ≤ n) = false := by simpa using a2
      have HI : Hid (D.inside at_ n = false) := Lib.hid (by unfold Dsk.inside; rw [d1, d2]; rfl)
      go_enter Tryz.func148, Tryz.ntmps148
      go_wp2_with fail
      go_ret
      rw [HI.out]
      exact ⟨rfl, rfl⟩
  · have d1 : decide (0 ≤ at_) = false := by simpa using a1
    have HI : Hid (D.inside at_ n = false) := Lib.hid (by unfold Dsk.inside; rw [d1]; rfl)
    go_enter Tryz.func148, Tryz.ntmps148
    go_wp2_with fail
    go_ret
    rw [HI.out]
    exact ⟨rfl, rfl⟩

set_option maxRecDepth 100000 in
set_option maxHeartbeats 400000 in
theorem sectors_any {w : World} {b : Nat} {D : Dsk} {fp : Nat → Prop} (h : DiskAt w b D fp) : Calls Tryz.prog 60 #[.pointer (some ⟨b, 0, none⟩)] w fun e w' => e = .returned (.int .i64 (D.n : Int)) ∧ w = w' := by
  obtain ⟨m, lv, h, rfl⟩ := h
  obtain ⟨c0, _, _, _, _, _⟩ := h.cells
  go_enter Tryz.func60, Tryz.ntmps60
  go_wp2_with fail
  go_ret
  exact ⟨rfl, rfl⟩

/-- The struct, one field written. -/
theorem DiskIn.set {w : World} {b m : Nat} {lv : Value} {D D' : Dsk} (h : DiskIn w b m lv D) (i : Nat) (v : Value)
    (hs : (#[.int .i64 (D.n : Int), .map (some m), lv, .int .i64 D.left, .bool D.down] : Array Value).setIfInBounds i v = #[.int .i64 (D'.n : Int), .map (some m), lv, .int .i64 D'.left, .bool D'.down])
    (hn : D'.n = D.n) (hb : D'.base = D.base) (hl : D'.loose = D.loose) (hf : D'.Fine) : DiskIn (w.setCell ⟨b, i, none⟩ v) b m lv D' := by
  have hu : Upd (fun k => k = b) w (w.setCell ⟨b, i, none⟩ v) := (Upd.refl (fun k => k = b) w).setCell (p := ⟨b, i, none⟩) (.inl rfl) v
  refine ⟨?_, ?_, ?_, h.mb, h.lb, h.lm, hf⟩
  · rw [← hs]
    exact heap_setCell_same w b i _ _ v h.struct
  · rw [hn, hb]; exact h.base.kept (hu.block m h.base.lt h.mb)
  · rw [hl]; exact ownsRow_upd h.loose hu (fun g hg e => h.lb (by rw [hg, e]))

set_option maxRecDepth 100000 in
set_option maxHeartbeats 400000 in
theorem fuse_any {w : World} {b : Nat} {D : Dsk} {fp : Nat → Prop} (h : DiskAt w b D fp) (n : Int) (hn : n ≤ 9223372036854775807) :
    Calls Tryz.prog 22 #[.pointer (some ⟨b, 0, none⟩), .int .i64 n] w fun e w' => e = .returned (.int .i64 0) ∧ DiskAt w' b (D.fuse n) fp ∧ Upd fp w w' := by
  obtain ⟨m, lv, hd, rfl⟩ := h
  obtain ⟨_, _, _, c3, _, cf⟩ := hd.cells
  have hf3 := cf 3
  clear cf
  go_enter Tryz.func22, Tryz.ntmps22
  go_wp2_with fail
  · have hlt : n < -1 := by assumption
    go_ret
    exact ⟨rfl, ⟨m, lv, hd.set 3 _ (by simp [Dsk.fuse]; omega) rfl rfl rfl (hd.fine.fuse hn), rfl⟩, (Upd.refl _ w).setCell (p := ⟨b, 3, none⟩) (.inl (.inl rfl)) _⟩
  · have hge : -1 ≤ n := by assumption
    go_ret
    exact ⟨rfl, ⟨m, lv, hd.set 3 _ (by simp [Dsk.fuse]; omega) rfl rfl rfl (hd.fine.fuse hn), rfl⟩, (Upd.refl _ w).setCell (p := ⟨b, 3, none⟩) (.inl (.inl rfl)) _⟩
end Go.Proofs.YtdmbadkpendfhaaGreatDoor
