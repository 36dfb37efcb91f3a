/- Disk.Flush, Disk.Crash, walked. -/
import Derived.Test.YthbdflmckfgleaaDiskLay
namespace Go.Proofs.Ythbdflmckfgleaa
open Go.RowKit Go.Maps Go.Shelf

theorem items_of {N : Nat} : ∀ (l : List (Nat × List UInt8)), (∀ p ∈ l, p.1 < N ∧ p.2.length = 64) → ∃ L : List (Item N), L.map (·.1) = l
  | [], _ => ⟨[], rfl⟩
  | p :: l, h => by
    obtain ⟨L, hL⟩ := items_of l (fun q hq => h q (List.mem_cons_of_mem _ hq))
    exact ⟨⟨p, h p List.mem_cons_self⟩ :: L, by rw [List.map_cons, hL]⟩
theorem DiskIn.looseAt {w : World} {b m : Nat} {lv : Value} {D : Dsk} (h : DiskIn w b m lv D) : LooseAt m w.heap.size w lv D.loose :=
  ⟨h.loose, fun _ hg => ⟨ownsRow_lt h.loose hg, fun e => h.lm (by rw [hg, e])⟩, fun p hp => (h.fine.loose p hp).2⟩
/-- Nothing is loose. -/
theorem DiskIn.drop {w : World} {b m : Nat} {lv : Value} {D : Dsk} (h : DiskIn w b m lv D) : DiskIn (w.setCell ⟨b, 2, none⟩ (.slice none 0 0)) b m (.slice none 0 0) { D with loose := [] } := by
  have hu : Upd (fun k => k = b) w (w.setCell ⟨b, 2, none⟩ (.slice none 0 0)) := (Upd.refl (fun k => k = b) w).setCell (p := ⟨b, 2, none⟩) (.inl rfl) _
  refine ⟨?_, h.base.kept (hu.block m h.base.lt h.mb), ?_, h.mb, by simp [Value.ownBlock], by simp [Value.ownBlock], ⟨h.fine.n1, h.fine.n2, h.fine.base, fun p hp => by simp at hp, h.fine.left⟩⟩
  · exact heap_setCell_same w b 2 _ _ (.slice none 0 0) h.struct
  · show World.ownsRow _ 0 _ 65 (.slice none 0 0) 0 _
    rw [looseCells_nil]
    exact World.ownsRow_nil _ _ _ _

theorem values_any (a : Option Addr) (len cap : Nat) (w : World) :
    Calls Try.prog 65 #[.slice a len cap] w fun e w' => e = .returned (.func (.func 97) #[] #[.pointer (some ⟨w.heap.size, 0, none⟩)]) ∧ w' = w.alloc (.cells #[.slice a len cap] 94) :=
  callsIn_wide.1 (values_in Fence.wide 3 trivial rfl a len cap w)

/-- 'd.lay(slices.Values(d.loose))' -/
theorem layall_any {w : World} {b m : Nat} {q : Option Addr} {cap : Nat} {D : Dsk} (h : DiskIn w b m (.slice q D.loose.length cap) D) (hlen : D.loose.length ≤ 1000000000) :
    Calls Try.prog 64 #[.pointer (some ⟨b, 0, none⟩), .func (.func 97) #[] #[.pointer (some ⟨w.heap.size, 0, none⟩)]] (w.alloc (.cells #[.slice q D.loose.length cap] 94)) fun e w' => (∃ v, e = .returned v) ∧ DiskIn w' b m (.slice q D.loose.length cap) { D with base := Dsk.lay D.base D.loose } ∧ Upd (fun k => k = m) w w' := by
  obtain ⟨L, hL⟩ := items_of (N := D.n) D.loose h.fine.loose
  have hb := (Below.refl w.heap.size w).alloc (Nat.le_refl _) (.cells #[.slice q D.loose.length cap] 94)
  have h' := h.below hb
  have hbox := Boxed.new w 94 (.slice q D.loose.length cap)
  have hll : L.length = D.loose.length := by rw [← hL, List.length_map]
  have hs := values_stops Fence.wide 2 trivial rfl (by omega) D.n m (w.alloc (.cells #[.slice q D.loose.length cap] 94)).heap.size w.heap.size (.slice q D.loose.length cap) L _ hbox.cell (by rw [hL]; exact h'.looseAt) (by omega)
  refine (callsIn_wide.1 (lay_in h' (enters_of Try.func97 (by kernel_rfl) rfl) (Nat.le_refl _) (n := 3) (by omega) hs)).mono ?_
  rintro e w' ⟨g1, g2, g3⟩
  refine ⟨g1, ?_, (Upd.of_below hb).trans g3 (fun _ h => .inl h)⟩
  unfold laid at g2
  rw [hL] at g2
  exact g2

set_option maxRecDepth 100000 in
set_option maxHeartbeats 400000 in
theorem flush_any {w : World} {b : Nat} {D : Dsk} {fp : Nat → Prop} (h : DiskAt w b D fp) (hlen : D.loose.length ≤ 1000000000) :
    Calls Try.prog 29 #[.pointer (some ⟨b, 0, none⟩)] w fun e w' => e = .returned (.int .i64 D.flush.2) ∧ ∃ fp', DiskAt w' b D.flush.1 fp' ∧ Upd fp w w' ∧ Stays fp fp' w := by
  obtain ⟨m, lv, hI, rfl⟩ := h
  have HI := Lib.hid hI
  by_cases hd : D.down = true
  · have hu : Hid (D.up = 40) := Lib.hid (by unfold Dsk.up; rw [hd]; rfl)
    have hF : D.flush = (D, 40) := by unfold Dsk.flush; rw [if_pos hd]
    rw [hF]
    clear hF hd
    go_enter Try.func29, Try.ntmps29
    go_wp2_with fail
    refine (up_any hI).mono ?_
    rw [hu.out]
    rintro e w1 ⟨rfl, rfl⟩
    go_wp2_with fail
    go_ret
    exact ⟨rfl, _, ⟨m, lv, HI.out, rfl⟩, Upd.refl _ _, fun _ h => .inl h⟩
  · have hd' : D.down = false := by simpa using hd
    have hu : Hid (D.up = 0) := Lib.hid (by unfold Dsk.up; rw [hd']; rfl)
    have hF : D.flush = ({ D with base := Dsk.lay D.base D.loose, loose := [] }, 0) := by unfold Dsk.flush; rw [if_neg hd]
    rw [hF]
    clear hF hd hd'
    obtain ⟨q, cap, rfl⟩ : ∃ q cap, lv = .slice q D.loose.length cap := by
      rcases hI.loose.2 with ⟨e1, e2⟩ | ⟨g, cap, _, e1, _⟩
      · exact ⟨none, 0, by rw [e1, e2]⟩
      · exact ⟨_, cap, e1⟩
    obtain ⟨_, _, c2, _, _, _⟩ := hI.cells
    go_enter Try.func29, Try.ntmps29
    go_wp2_with fail
    refine (up_any hI).mono ?_
    rw [hu.out]
    rintro e w1 ⟨rfl, rfl⟩
    go_wp2_with fail
    refine (values_any _ _ _ _).mono ?_
    rintro e w1 ⟨rfl, rfl⟩
    go_wp2_with fail
    refine (layall_any HI.out hlen).mono ?_
    rintro e w1 ⟨⟨v, rfl⟩, hD, hU⟩
    have HD := Lib.hid hD
    have HU := Lib.hid hU
    obtain ⟨_, _, d2, _, _, df⟩ := hD.cells
    have df2 := df 2
    clear hI hD hU df c2
    go_wp2_with fail
    go_ret
    refine ⟨rfl, _, ⟨m, _, HD.out.drop, rfl⟩, (HU.out.mono (fun _ e => .inr (.inl e))).setCell (p := ⟨b, 2, none⟩) (.inl (.inl rfl)) _, ?_⟩
    rintro k (rfl | rfl | hk)
    · exact .inl (.inl rfl)
    · exact .inl (.inr (.inl rfl))
    · simp [Value.ownBlock] at hk
end Go.Proofs.Ythbdflmckfgleaa
