/- The document's disk: Fuse, Flush, Read. -/
import Derived.Test.YthbdflmckfgleaaRefNow
import Derived.OneCell
namespace Go.Proofs.Ythbdflmckfgleaa
open Go.RowKit Go.Maps

def RefAt (w : World) (b : Nat) (D : Dsk) (fp : Nat → Prop) : Prop := ∃ bv lv, RefIn w b bv lv D ∧ fp = refBlocks b bv lv

set_option maxRecDepth 100000 in
set_option maxHeartbeats 400000 in
theorem rfuse_any {w : World} {b : Nat} {D : Dsk} {fp : Nat → Prop} (h : RefAt w b D fp) (n : Int) (hn : n ≤ 9223372036854775807) :
    Calls Try.prog 71 #[.pointer (some ⟨b, 0, none⟩), .int .i64 n] w fun e w' => (∃ v, e = .returned v) ∧ RefAt w' b (D.fuse n) fp ∧ Upd fp w w' := by
  obtain ⟨bv, lv, hI, rfl⟩ := h
  obtain ⟨_, _, c2, _, cf⟩ := hI.cells
  have cf2 := cf 2
  have H := Lib.hid hI
  have hmx : (if n < -1 then (-1 : Int) else n) = max n (-1) := by split <;> omega
  generalize hM : max n (-1) = M at hmx
  have HM := Lib.hid hM
  clear hI cf hM
  go_enter Try.func71, Try.ntmps71
  go_wp2_with fail
  go_end0
  have hu : Upd (fun k => k = b) w (w.setCell ⟨b, 2, none⟩ (.int .i64 M)) := (Upd.refl (fun k => k = b) w).setCell (p := ⟨b, 2, none⟩) (.inl rfl) _
  refine ⟨⟨_, rfl⟩, ⟨bv, lv, ⟨?_, ?_, ?_, H.out.bb, H.out.lb, H.out.bl, H.out.fine.fuse hn⟩, rfl⟩, hu.mono (fun _ e => Or.inl e)⟩
  · rw [heap_setCell_same w b 2 _ _ _ H.out.struct, ← HM.out]
    rfl
  · exact ownsRow_upd H.out.base hu (fun g hg e => H.out.bb (by rw [hg, e]))
  · exact ownsRow_upd H.out.loose hu (fun g hg e => H.out.lb (by rw [hg, e]))

set_option maxRecDepth 100000 in
set_option maxHeartbeats 400000 in
theorem rflush_any {w : World} {b : Nat} {D : Dsk} {fp : Nat → Prop} (h : RefAt w b D fp) (hlen : D.loose.length ≤ 1000000000) :
    Calls Try.prog 70 #[.pointer (some ⟨b, 0, none⟩)] w fun e w' => e = .returned (.int .i64 D.flush.2) ∧ ∃ fp', RefAt w' b D.flush.1 fp' ∧ Upd fp w w' ∧ Stays fp fp' w := by
  obtain ⟨bv, lv, hI, rfl⟩ := h
  obtain ⟨_, _, _, c3, _⟩ := hI.cells
  have H := Lib.hid hI
  clear hI
  by_cases hd : D.down = true
  · have hF : D.flush = (D, 40) := by unfold Dsk.flush; rw [if_pos hd]
    rw [hF]
    rw [hd] at c3
    clear hF hd
    go_enter Try.func70, Try.ntmps70
    go_wp2_with fail
    go_ret
    exact ⟨rfl, _, ⟨bv, lv, H.out, rfl⟩, Upd.refl _ _, fun _ h => .inl h⟩
  · have hd' : D.down = false := by simpa using hd
    have hfin : D.flush.1.Fine := H.out.fine.flush
    have hF : D.flush = ({ D with base := Dsk.lay D.base D.loose, loose := [] }, 0) := by unfold Dsk.flush; rw [if_neg hd]
    rw [hF] at hfin ⊢
    rw [hd'] at c3
    have HF := Lib.hid hfin
    clear hF hd hd' hfin
    go_enter Try.func70, Try.ntmps70
    go_wp2_with fail
    refine (rnow_any H.out hlen).mono ?_
    rintro e w1 ⟨sv, rfl, hrow, hb, hnew⟩
    have h1 := H.out.below hb
    obtain ⟨d0, d1, _, _, df⟩ := h1.cells
    have df0 := df 0
    have df1 := df 1
    have H1 := Lib.hid h1
    have HR := Lib.hid hrow
    have HB := Lib.hid hb
    have HN := Lib.hid hnew
    obtain ⟨q, cap, rfl⟩ := slice_len hrow
    clear h1 hrow hb hnew df c3
    go_wp2_with fail
    go_ret
    have hbl : b < w.heap.size := H.out.lt b (.inl rfl)
    have hu : Upd (fun k => k = b) w1 ((w1.setCell ⟨b, 0, none⟩ (.slice q D.n cap)).setCell ⟨b, 1, none⟩ (.slice none 0 0)) := ((Upd.refl (fun k => k = b) w1).setCell (p := ⟨b, 0, none⟩) (.inl rfl) _).setCell (p := ⟨b, 1, none⟩) (.inl rfl) _
    refine ⟨rfl, _, ⟨.slice q D.n cap, .slice none 0 0, ⟨?_, ?_, ?_, fun e => ?_, by simp [Value.ownBlock], fun _ _ => by simp [Value.ownBlock], HF.out⟩, rfl⟩, ?_, ?_⟩
    · have e1 := heap_setCell_same w1 b 0 _ _ (.slice q D.n cap) H1.out.struct
      exact heap_setCell_same _ b 1 _ _ (.slice none 0 0) e1
    · exact ownsRow_upd HR.out hu (fun g hg e => by have := HN.out g hg; omega)
    · show World.ownsRow _ 0 _ 2 (.slice none 0 0) 0 _
      rw [rputCells_nil]
      exact World.ownsRow_nil _ _ _ _
    · have := HN.out b e; omega
    · exact (Upd.of_below HB.out).trans hu (fun i e => .inl (.inl e))
    · rintro k (rfl | hk | hk)
      · exact .inl (.inl rfl)
      · exact .inr (HN.out k hk)
      · simp [Value.ownBlock] at hk
end Go.Proofs.Ythbdflmckfgleaa
