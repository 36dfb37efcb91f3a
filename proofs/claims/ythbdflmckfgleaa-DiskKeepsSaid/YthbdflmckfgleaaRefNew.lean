/- The document's disk: New. -/
import Derived.Test.YthbdflmckfgleaaRefWriteAny
namespace Go.Proofs.Ythbdflmckfgleaa
open Go.RowKit Go.Maps

theorem rowsN_snoc (f : Nat → List UInt8) (k : Nat) : rowsN f (k + 1) = rowsN f k ++ [f k] := by
  unfold rowsN
  rw [List.range_succ, List.map_append]
  rfl
theorem str_one (s : List UInt8) : ∀ u ∈ [Value.string (bs s)], u.oneCell' = true := by
  intro u hu
  simp at hu
  subst hu
  rfl

set_option maxRecDepth 100000 in
set_option maxHeartbeats 2000000 in
theorem rnew_any (n : Nat) (w : World) (h1 : 1 ≤ n) (h2 : n ≤ 16384) :
    Calls Try.prog 35 #[.int .i64 (n : Int)] w fun e w' => ∃ b fp, e = .returned (.pointer (some ⟨b, 0, none⟩)) ∧ RefAt w' b (Dsk.new n) fp ∧ Below w.heap.size w w' ∧ ∀ k, fp k → w.heap.size ≤ k := by
  obtain ⟨i0, hi0, hz0, hz1, hz2⟩ := info_parts str_info
  go_enter Try.func35, Try.ntmps35
  go_wp2_with fail
  go_loopw [4] (fun i wr => ∃ (k : Nat) (bv : Value), k ≤ n ∧ i = .int .i64 k ∧ wr.heap[w.heap.size]? = some (.cells #[bv, .slice none 0 0, .int .i64 (-1), .bool false] 119) ∧ wr.ownsRow 0 9 1 bv k (strCells (rowsN (fun _ => sec0) k)) ∧ (∀ g, bv.ownBlock = some g → w.heap.size < g) ∧ Below w.heap.size w wr) (fun i _ => n - (intOf i).toNat)
  case atStart =>
    refine ⟨0, .slice none 0 0, by omega, rfl, heap_alloc_new w _, ?_, fun g e => by simp [Value.ownBlock] at e, (Below.refl _ _).alloc (Nat.le_refl _) _⟩
    have e : strCells (rowsN (fun _ => sec0) 0) = [] := by unfold strCells rowsN; rfl
    rw [e]
    exact World.ownsRow_nil _ _ _ _
  case round =>
    obtain ⟨k, bv, hk, rfl, hs, hown, hnb, hb⟩ := hrel
    have hlt0 := (Array.getElem?_eq_some_iff.1 hs).1
    by_cases hlt : k < n
    · have c0 : wr.cell? ⟨w.heap.size, 0, none⟩ = some bv := by rw [cell_of_row wr _ _ _ _ _ hs]; rfl
      have cf0 := frozen_of_row wr w.heap.size 0 _ _ hs
      have hS := Lib.hid hs; have HO := Lib.hid hown; have HNB := Lib.hid hnb; have HB := Lib.hid hb
      have hne : bv.ownBlock ≠ some w.heap.size := fun e => by have := hnb _ e; omega
      clear hs hown hnb hb
      go_wp2_with fail
      go_region_law
        (first
          | (go_simp; go_at_call 72; refine (zero_any _).mono ?_; rintro e w1 ⟨rfl, hb1⟩; have hown1 : w1.ownsRow 0 9 1 bv k (strCells (rowsN (fun _ => sec0) k)) := ownsRow_upd HO.out.drew (Upd.of_below (F := fun _ => False) hb1) (fun _ _ f => f); have hlt1 : w.heap.size < w1.heap.size := Nat.lt_of_lt_of_le hlt0 hb1.size; have c1 := (hb1.cell (p := ⟨w.heap.size, 0, none⟩) hlt0).trans c0; have cf1 := (hb1.frozen (p := ⟨w.heap.size, 0, none⟩) hlt0).trans cf0; go_wp2_with fail)
          | ((refine step_append_lies _ (by rfl) _ _ _ (by rfl) 0 9 i0 _ 1 16 Try.underlying31 hi0 hz0 hz1 hz2 (by rfl) (by omega) bv k (strCells (rowsN (fun _ => sec0) k)) (by rfl) (hown1.alloc _) ⟨w1.heap.size, 0, none⟩ 1 1 [.string (bs sec0)] (by rfl) (by rfl) (World.news_of_block (cs := #[.string (bs sec0)]) (t := 9) (fr := (0, 0)) (heap_alloc_new w1 _)) (str_one _) (by omega) (by unfold maxLen; omega) (by omega) (by omega) (w1.heap.size + 1) (by simp) ?_; intro gg cap2 w2 hown2 hgrow hat hlt2; have hfz2 := (hgrow.frozen_far ⟨w.heap.size, 0, none⟩ (by show w.heap.size < _; rw [World.size_alloc]; omega) (Ne.symm hne)).trans ((((Below.refl w1.heap.size w1).alloc (Nat.le_refl _) (Obj.cells #[.string (bs sec0)] 9)).frozen (p := ⟨w.heap.size, 0, none⟩) hlt1).trans cf1); have hc2 := (hgrow.cell_far ⟨w.heap.size, 0, none⟩ (by show w.heap.size < _; rw [World.size_alloc]; omega) (Ne.symm hne)).trans ((((Below.refl w1.heap.size w1).alloc (Nat.le_refl _) (Obj.cells #[.string (bs sec0)] 9)).cell (p := ⟨w.heap.size, 0, none⟩) hlt1).trans c1))))
      all_goals
        have h0 : Below wr.heap.size wr w1 := ((Below.refl _ wr).drew).trans (hb1.mono (Nat.le_refl _))
        have h3 : Below w.heap.size w w2 := ((HB.out.trans (h0.mono (by omega))).alloc (by omega) (Obj.cells #[.string (bs sec0)] 9)).grown hgrow (by rw [World.size_alloc]; omega) (fun k e => by have := HNB.out k e; omega)
        have h4 : w2.heap[w.heap.size]? = some (.cells #[bv, .slice none 0 0, .int .i64 (-1), .bool false] 119) := by
          rw [hgrow.block w.heap.size (by rw [World.size_alloc]; omega) (Ne.symm hne), (((Below.refl w1.heap.size w1).alloc (Nat.le_refl _) _).block w.heap.size hlt1), h0.block w.heap.size hlt0]
          exact hS.out
        have h5 : gg ≠ w.heap.size := by
          rcases hat with hat | hat
          · have := HNB.out gg hat; omega
          · omega
        have H3 := Lib.hid h3; have H4 := Lib.hid h4; have H5 := Lib.hid hown2
        clear h0 h3 h4 hown2 hgrow hb1 hown1
        go_wp2_with fail
        go_roundw
        case rel =>
          have hu : Upd (fun k => k = w.heap.size) w2 (w2.setCell ⟨w.heap.size, 0, none⟩ (.slice (some ⟨gg, 0, none⟩) (k + 1) cap2)) := (Upd.refl (fun k => k = w.heap.size) w2).setCell (p := ⟨w.heap.size, 0, none⟩) (.inl rfl) _
          refine ⟨k + 1, .slice (some ⟨gg, 0, none⟩) (k + 1) cap2, by omega, by go_num, heap_setCell_same w2 w.heap.size 0 _ _ _ H4.out, ?_, fun g e => ?_, H3.out.setCell (p := ⟨w.heap.size, 0, none⟩) (Nat.le_refl _) _⟩
          · rw [rowsN_snoc, strCells_snoc]
            exact ownsRow_upd H5.out hu (fun g hg e => h5 (by simp [Value.ownBlock] at hg; omega))
          · simp [Value.ownBlock] at e
            subst e
            rcases hat with hat | hat
            · exact HNB.out _ hat
            · omega
        case measure => simp [intOf]; omega
    · obtain rfl : k = n := by omega
      have hS := Lib.hid hs; have HO := Lib.hid hown; have HNB := Lib.hid hnb; have HB := Lib.hid hb
      clear hs hown hnb hb
      go_wp2_with fail
      go_ret
      refine ⟨w.heap.size, _, rfl, ⟨bv, .slice none 0 0, ⟨hS.out, HO.out, ?_, fun e => ?_, fun e => ?_, fun _ _ e => ?_, Dsk.Fine.new h1 h2⟩, rfl⟩, HB.out, ?_⟩
      · show World.ownsRow _ 0 _ 2 (.slice none 0 0) 0 (rputCells [])
        rw [rputCells_nil]
        exact World.ownsRow_nil _ _ _ _
      · have := HNB.out _ e; omega
      · simp [Value.ownBlock] at e
      · simp [Value.ownBlock] at e
      · rintro k (rfl | hk | hk)
        · exact Nat.le_refl _
        · have := HNB.out _ hk; omega
        · simp [Value.ownBlock] at hk
end Go.Proofs.Ythbdflmckfgleaa
