/- The document's disk: Write, walked. -/
import Derived.Test.YthbdflmckfgleaaRefWrite
namespace Go.Proofs.Ythbdflmckfgleaa
open Go.RowKit Go.Maps

set_option maxRecDepth 100000 in
set_option maxHeartbeats 2000000 in
theorem rwrite_in {w : World} {b : Nat} {bv lv : Value} {D : Dsk} (h : RefIn w b bv lv D) (a : Nat) (s : List UInt8) (hd : D.down = false) (n : Nat) (hs : s.length = 64 * n) (hi : D.inside a n = true) (hloose : D.loose.length + n ≤ 1000000000) :
    Calls Try.prog 43 #[.pointer (some ⟨b, 0, none⟩), .int .i64 a, .string (bs s)] w fun e w' => e = .returned (.int .i64 (Dsk.writes D a s n).2) ∧ ∃ lv', RefIn w' b bv lv' (Dsk.writes D a s n).1 ∧ Upd (refBlocks b bv lv) w w' ∧ Stays (refBlocks b bv lv) (refBlocks b bv lv') w := by
  obtain ⟨_, _, _, c3, _⟩ := h.cells
  rw [hd] at c3
  have HI := Lib.hid hi
  have hN := h.fine.n2
  have hin : a + n ≤ D.n := by
    simp [Dsk.inside] at hi
    omega
  clear hd hi
  have HS := Lib.hid hs
  have hq : ((s.length : Int) / 64) = (n : Int) := by omega
  have hr : (s.length : Int) % 64 = 0 := by omega
  have HD := Lib.hid h
  clear hs
  go_enter Try.func43, Try.ntmps43
  go_wp2_with fail
  refine (rin_any h a n (by omega) (by omega) (by omega) (by omega)).mono ?_
  rw [HI.out]
  rintro e w1 ⟨rfl, rfl⟩
  clear h hq hr c3
  go_wp2_with fail
  go_loopw [8] (fun i wr => ∃ (k : Nat) (lk : Value) (E : Dsk), k ≤ n ∧ i = .int .i64 k ∧ RefIn wr b bv lk E ∧ E.n = D.n ∧ E.loose.length = D.loose.length + k ∧ Dsk.writes D a s n = Dsk.writes E (a + k) (s.drop (64 * k)) (n - k) ∧ Upd (refBlocks b bv lv) w wr ∧ Stays (refBlocks b bv lv) (refBlocks b bv lk) w) (fun i _ => n - (intOf i).toNat)
  case atStart => exact ⟨0, lv, D, by omega, rfl, HD.out, rfl, rfl, by rw [Nat.mul_zero, List.drop_zero]; rfl, Upd.refl _ _, fun _ h => .inl h⟩
  case round =>
    obtain ⟨k, lk, E, hk, rfl, hE, hEn, hEl, hW, hU, hS⟩ := hrel
    obtain ⟨c0, c1, c2, c3, cf⟩ := hE.cells
    by_cases hlt : k < n
    · obtain ⟨hx1, hx2⟩ := chunk s k (by rw [HS.out]; omega)
      have hstep : Dsk.writes E (a + k) (s.drop (64 * k)) (n - k) = if E.left = 0 then ({ E with down := true }, 40) else Dsk.writes { E with loose := E.loose ++ [(a + k, (s.drop (64 * k)).take 64)], left := max (E.left - 1) (-1) } (a + k + 1) ((s.drop (64 * k)).drop 64) (n - (k + 1)) := by
        rw [show n - k = (n - (k + 1)) + 1 by omega]; rfl
      have HST := Lib.hid hstep
      have HE := Lib.hid hE; have HEN := Lib.hid hEn; have HEL := Lib.hid hEl; have HW := Lib.hid hW; have HU := Lib.hid hU; have HSS := Lib.hid hS
      have HX1 := Lib.hid hx1; have HX2 := Lib.hid hx2
      have cf3 := cf 3; have cf2 := cf 2; have cf1 := cf 1
      clear hstep hE hEn hEl hW hU hS hx1 hx2 cf c0
      by_cases hl0 : E.left = 0
      · have hb0 : (E.left == 0) = true := by simp [hl0]
        have HL := Lib.hid hl0
        clear hl0
        go_wp2_with fail
        go_ret
        have hu : Upd (fun k => k = b) wr (wr.setCell ⟨b, 3, none⟩ (.bool true)) := (Upd.refl (fun k => k = b) wr).setCell (p := ⟨b, 3, none⟩) (.inl rfl) _
        refine ⟨by rw [HW.out, HST.out, if_pos HL.out]; rfl, lk, ?_, HU.out.setCell (p := ⟨b, 3, none⟩) (.inl (.inl rfl)) _, HSS.out⟩
        rw [HW.out, HST.out, if_pos HL.out]
        refine ⟨?_, ?_, ?_, HE.out.bb, HE.out.lb, HE.out.bl, ⟨HE.out.fine.n1, HE.out.fine.n2, HE.out.fine.base, HE.out.fine.loose, HE.out.fine.left⟩⟩
        · exact heap_setCell_same wr b 3 _ _ (.bool true) HE.out.struct
        · exact ownsRow_upd HE.out.base hu (fun g hg e => HE.out.bb (by rw [hg, e]))
        · exact ownsRow_upd HE.out.loose hu (fun g hg e => HE.out.lb (by rw [hg, e]))
      · have hb0 : (E.left == 0) = false := by simp [hl0]
        have HL := Lib.hid hl0
        clear hl0
        have hsl : 64 * (k + 1) ≤ s.length := by rw [HS.out]; omega
        have hxe : List.drop (k * 64) (List.take ((k + 1) * 64) s) = (s.drop (64 * k)).take 64 := by rw [Nat.mul_comm k, Nat.mul_comm (k + 1)]; exact HX1.out
        have HREST : Hid ((s.drop (64 * k)).drop 64 = s.drop (64 * (k + 1))) := Lib.hid (by rw [List.drop_drop, show 64 * k + 64 = 64 * (k + 1) by omega])
        generalize (s.drop (64 * k)).take 64 = x at *
        have hlow := HE.out.loose
        have hne2 := HE.out.lb
        have hcount : (E.loose.length + 1) * 24 ≤ 140737488355328 := by rw [HEL.out]; omega
        obtain ⟨i0, hi0, hz0, hz1, hz2⟩ := info_parts rput_info3
        have hwr : IntKind.i64.wrap ((a : Int) + (k : Int)) = (a : Int) + (k : Int) := IntWalk.i64_in _ (by omega)
        obtain ⟨hl1, hl2⟩ := HE.out.fine.left
        have hw1 : IntKind.i64.wrap ((k : Int) + 1) = (k : Int) + 1 := IntWalk.i64_in _ (by omega)
        have hw2 : IntKind.i64.wrap (((k : Int) + 1) * 64) = ((k : Int) + 1) * 64 := IntWalk.i64_in _ (by omega)
        have hw3 : IntKind.i64.wrap ((k : Int) * 64) = (k : Int) * 64 := IntWalk.i64_in _ (by omega)
        have hb1 : (0 : Int) ≤ ((k : Int) + 1) * 64 := by omega
        have hb2 : ((k : Int) + 1) * 64 ≤ (s.length : Int) := by omega
        have hb3 : (0 : Int) ≤ (k : Int) * 64 := by omega
        have hb4 : (k : Int) * 64 ≤ ((k : Int) + 1) * 64 := by omega
        have hb5 : (k : Int) ≤ (k : Int) + 1 := by omega
        have ht1 : ((k : Int) * 64).toNat = k * 64 := by omega
        have ht2 : (((k : Int) + 1) * 64).toNat = (k + 1) * 64 := by omega
        have k1 : ∀ ob, (wr.alloc ob).drew.cell? ⟨b, 1, none⟩ = some lk ∧ (wr.alloc ob).drew.frozen? ⟨b, 1, none⟩ = false := fun ob => by
          have hb := (Below.refl wr.heap.size wr).alloc (Nat.le_refl _) ob
          exact ⟨(hb.cell (block_lt_of_cell c1)).trans c1, (hb.frozen (block_lt_of_cell c1)).trans cf1⟩
        have k2 : ∀ ob, (wr.alloc ob).drew.cell? ⟨b, 2, none⟩ = some (.int .i64 E.left) ∧ (wr.alloc ob).drew.frozen? ⟨b, 2, none⟩ = false := fun ob => by
          have hb := (Below.refl wr.heap.size wr).alloc (Nat.le_refl _) ob
          exact ⟨(hb.cell (block_lt_of_cell c2)).trans c2, (hb.frozen (block_lt_of_cell c2)).trans cf2⟩
        go_wp2_with fail
        go_region_law
          ((refine step_append_lies _ (by rfl) _ _ _ (by rfl) 0 123 i0 _ 2 24 Try.underlying117 hi0 hz0 hz1 hz2 (by rfl) (by omega) lk E.loose.length (rputCells E.loose) (by rfl) ((hlow.alloc _).drew) ⟨wr.heap.size, 0, none⟩ 1 1 [.int .i64 ((a : Int) + (k : Int)), .string (bs x)] (by rfl) (by rfl) (World.news_of_block (cs := #[.int .i64 ((a : Int) + (k : Int)), .string (bs x)]) (t := 123) (fr := (0, 0)) (heap_alloc_new wr _)) (rput_one _ _) (by omega) (by unfold maxLen; omega) hcount (by omega) (wr.heap.size + 1) (by simp) ?_; intro gg cap2 w2 hown1 hgrow hat hlt2; have hc2 := hgrow.cell (k1 _).1 (Ne.symm hne2); have hfz2 := (hgrow.frozen_far _ (block_lt_of_cell (k1 _).1) (Ne.symm hne2)).trans (k1 _).2; have hc3 := hgrow.cell (k2 _).1 (Ne.symm hne2); have hfz3 := (hgrow.frozen_far _ (block_lt_of_cell (k2 _).1) (Ne.symm hne2)).trans (k2 _).2))
        all_goals
          clear k1 k2 hw1 hw2 hw3 hb1 hb2 hb3 hb4 hb5 ht1 ht2 c1 c2 c3 cf1 cf2 cf3 hcount hi0 hz0 hz1 hz2 hxe
          have hmx : (if E.left - 1 < -1 then (-1 : Int) else E.left - 1) = max (E.left - 1) (-1) := by split <;> omega
          generalize hM : max (E.left - 1) (-1) = M at hmx
          have HM := Lib.hid hM
          have hMr : -1 ≤ M ∧ M ≤ 9223372036854775807 := by omega
          have HMR := Lib.hid hMr
          clear hM hMr
          go_wp2_with fail
          have hbw : Below wr.heap.size wr ((wr.alloc (Obj.cells #[.int .i64 ((a : Int) + (k : Int)), .string (bs x)] 123)).drew) := ((Below.refl _ wr).alloc (Nat.le_refl _) _).drew
          obtain ⟨g1, g2, g3⟩ := rwrote (a := a + k) (L := M) HE.out hbw hgrow rfl hown1 (by rw [rputCells_snoc, Int.natCast_add]) (hat.imp (fun h => h) (fun h => by omega)) (by have := HEN.out; omega) HX2.out HMR.out
          go_roundw
          case rel =>
            refine ⟨k + 1, _, _, by omega, by go_num, g1, HEN.out, ?_, ?_, ?_, ?_⟩
            · show (E.loose ++ [(a + k, x)]).length = _
              rw [List.length_append, HEL.out]; rfl
            · rw [HW.out, HST.out, if_neg HL.out, HREST.out, HM.out]
              rfl
            · exact HU.out.trans g2 (fun i hi => HSS.out i hi)
            · intro i hi
              have hsz3 := HU.out.size
              rcases g3 i hi with h | h
              · exact HSS.out i h
              · exact .inr (by omega)
          case measure => simp [intOf]; omega
    · have hkn : k = n := by omega
      subst hkn
      have HE := Lib.hid hE; have HW := Lib.hid hW; have HU := Lib.hid hU; have HSS := Lib.hid hS
      clear hE hW hU hS hEn hEl c0 c1 c2 c3 cf
      go_wp2_with fail
      go_ret
      rw [HW.out, Nat.sub_self]
      exact ⟨rfl, lk, HE.out, HU.out, HSS.out⟩
end Go.Proofs.Ythbdflmckfgleaa
