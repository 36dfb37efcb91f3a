/- Disk.Crash, walked. -/
import Derived.Test.YthbdflmckfgleaaDiskFlush
namespace Go.Proofs.Ythbdflmckfgleaa
open Go.RowKit Go.Maps Go.Shelf

theorem kept_any (b : Nat) (keep : List UInt8) (w : World) :
    Calls Try.prog 68 #[.pointer (some ⟨b, 0, none⟩), .string (bs keep)] w fun e w' => e = .returned (.func (.func 99) #[] #[.pointer (some ⟨w.heap.size, 0, none⟩), .pointer (some ⟨w.heap.size + 1, 0, none⟩)]) ∧ w' = (w.alloc (.cells #[.pointer (some ⟨b, 0, none⟩)] 40)).alloc (.cells #[.string (bs keep)] 9) :=
  callsIn_wide.1 (kept_in Fence.wide 3 trivial rfl b keep w)

/-- 'd.lay(d.kept(keep))' -/
theorem laykept_any {w : World} {b m : Nat} {lv : Value} {D : Dsk} (h : DiskIn w b m lv D) (keep : List UInt8) (hlen : D.loose.length ≤ 1000000000) (hk : keep.length ≤ 1000000000) :
    Calls Try.prog 64 #[.pointer (some ⟨b, 0, none⟩), .func (.func 99) #[] #[.pointer (some ⟨w.heap.size, 0, none⟩), .pointer (some ⟨w.heap.size + 1, 0, none⟩)]] ((w.alloc (.cells #[.pointer (some ⟨b, 0, none⟩)] 40)).alloc (.cells #[.string (bs keep)] 9)) fun e w' => (∃ v, e = .returned v) ∧ DiskIn w' b m lv { D with base := Dsk.lay D.base (D.kept keep) } ∧ Upd (fun k => k = m) w w' := by
  obtain ⟨L, hL⟩ := items_of (N := D.n) D.loose h.fine.loose
  have hb1 := (Below.refl w.heap.size w).alloc (Nat.le_refl _) (.cells #[.pointer (some ⟨b, 0, none⟩)] 40)
  have hbx1 := (Boxed.new w 40 (.pointer (some ⟨b, 0, none⟩))).alloc (.cells #[.string (bs keep)] 9)
  have hbx2 := Boxed.new (w.alloc (.cells #[.pointer (some ⟨b, 0, none⟩)] 40)) 9 (.string (bs keep))
  have hb := hb1.alloc hb1.size (.cells #[.string (bs keep)] 9)
  have hsz : ((w.alloc (.cells #[.pointer (some ⟨b, 0, none⟩)] 40)).alloc (.cells #[.string (bs keep)] 9)).heap.size = w.heap.size + 2 := by rw [World.size_alloc, World.size_alloc]
  rw [World.size_alloc] at hbx2
  have h' := h.below hb
  obtain ⟨_, _, c2, _, _, _⟩ := h'.cells
  have hll : L.length = D.loose.length := by rw [← hL, List.length_map]
  have hs := kept_stops 2 (by omega) D.n m (w.heap.size + 2) w.heap.size (w.heap.size + 1) b keep lv L _ (by omega) (by have := h.base.lt; omega) (by omega) hbx1.cell hbx2.cell c2 (by rw [hL, ← hsz]; exact h'.looseAt) (by omega) hk
  refine (callsIn_wide.1 (lay_in h' (enters_of Try.func99 (by kernel_rfl) rfl) (n₀ := w.heap.size + 2) (by omega) (n := 3) (by omega) hs)).mono ?_
  rintro e w' ⟨g1, g2, g3⟩
  refine ⟨g1, ?_, (Upd.of_below hb).trans g3 (fun _ h => .inl h)⟩
  unfold laid at g2
  rw [keptI_map, hL, keptI_from] at g2
  exact g2

set_option maxRecDepth 100000 in
set_option maxHeartbeats 400000 in
theorem crash_any {w : World} {b : Nat} {D : Dsk} {fp : Nat → Prop} (h : DiskAt w b D fp) (keep : List UInt8) (hlen : D.loose.length ≤ 1000000000) (hk : keep.length ≤ 1000000000) :
    Calls Try.prog 33 #[.pointer (some ⟨b, 0, none⟩), .string (bs keep)] w fun e w' => e = .returned (.int .i64 0) ∧ ∃ fp', DiskAt w' b (D.crash keep) fp' ∧ Upd fp w w' ∧ Stays fp fp' w := by
  obtain ⟨m, lv, hI, rfl⟩ := h
  have HI := Lib.hid hI
  clear hI
  go_enter Try.func33, Try.ntmps33
  go_wp2_with fail
  refine (kept_any _ _ _).mono ?_
  rintro e w1 ⟨rfl, rfl⟩
  go_wp2_with fail
  refine (laykept_any HI.out keep hlen hk).mono ?_
  rintro e w1 ⟨⟨v, rfl⟩, hD, hU⟩
  have HD := Lib.hid hD
  have HU := Lib.hid hU
  obtain ⟨_, _, d2, d3, d4, df⟩ := hD.cells
  have df2 := df 2
  have df3 := df 3
  have df4 := df 4
  clear hD hU df
  go_wp2_with fail
  go_ret
  have h1 := HD.out.drop
  have hF := HI.out.fine.crash keep
  have h2 := h1.set (D' := { { { D with base := Dsk.lay D.base (D.kept keep) } with loose := [] } with left := -1 }) 3 (.int .i64 (-1)) rfl rfl rfl rfl ⟨hF.n1, hF.n2, hF.base, hF.loose, by show (-1 : Int) ≤ -1 ∧ (-1 : Int) ≤ 9223372036854775807; omega⟩
  have h3 := h2.set (D' := D.crash keep) 4 (.bool false) rfl rfl rfl rfl hF
  refine ⟨rfl, _, ⟨m, _, h3, rfl⟩, (((HU.out.mono (fun _ e => .inr (.inl e))).setCell (p := ⟨b, 2, none⟩) (.inl (.inl rfl)) _).setCell (p := ⟨b, 3, none⟩) (.inl (.inl rfl)) _).setCell (p := ⟨b, 4, none⟩) (.inl (.inl rfl)) _, ?_⟩
  rintro k (rfl | rfl | hk)
  · exact .inl (.inl rfl)
  · exact .inl (.inr (.inl rfl))
  · simp [Value.ownBlock] at hk
end Go.Proofs.Ythbdflmckfgleaa
