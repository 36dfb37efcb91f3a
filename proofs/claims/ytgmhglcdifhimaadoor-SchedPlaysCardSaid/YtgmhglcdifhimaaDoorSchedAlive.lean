/- maslinlaw31.alive, walked. -/
import Derived.Test.YtgmhglcdifhimaaDoorSchedMine
namespace Go.Proofs.YtgmhglcdifhimaaDoor
open Go.RowKit Go.Maps Go.Sort
open Tsk

set_option maxRecDepth 100000 in
set_option maxHeartbeats 4000000 in
theorem alive31_any (w : World) (hD : Doors w) : Calls Tryd.prog 8 #[] w fun e w' => e = .returned (.bool true) ∧ Below w.heap.size w w' := by
  have h00 : 0 < w.heap.size := block_lt_of_cell hD.1
  have HN1 := Lib.hid (snew_yes (some ⟨w.heap.size + 1, 0, none⟩) 2 [[], [0]] 0 2 _ (al_needs w) al_may (by omega) (by omega) (hD.upd (Upd.of_below (F := fun _ => False) (((Below.refl w.heap.size w).alloc (Nat.le_refl _) _).alloc (by simp) _)) h00 (fun f => f)))
  have HN2 := Lib.hid (fun (W : World) => snew_bad none 0 [] 0 0 W (fun i hi => absurd hi (Nat.not_lt_zero i)) (Nat.zero_le _) (fun h => absurd h.2.1 (by decide)))
  clear hD h00
  go_enter Tryd.func8, Tryd.ntmps8
  go_wp2_with fail
  refine HN1.out.mono ?_
  rintro e w1 ⟨P, p, m, lv, nvs, vv, rfl, hB, hb, hnew⟩
  have H0 := Lib.hid (show MyM w w1 P p m lv nvs vv Al.m0 0 from ⟨hB, new_fine al_may, by decide, (((Below.refl _ _).alloc (Nat.le_refl _) _).alloc (by simp) _).trans (hb.mono (by simp; omega)), fun i hi => by have := hnew i hi; simp at this; omega⟩)
  clear hB hb hnew HN1
  go_wp2_with fail
  refine (H0.out.do_ (by omega) 0 (by omega) 0 0 []).mono ?_
  rw [Al.a0]
  rintro e w2 ⟨rfl, ht⟩
  have H1 := Lib.hid (show MyM w w2 P p m lv nvs vv Al.m1 1 from H0.out.done _ _ ht)
  clear ht H0
  unfold ansV
  go_wp2_with fail
  have HE1 := Lib.hid (RowAt.made w2 #[.int .i64 0, .bool false] 42)
  have hbk : Below w2.heap.size w2 (w2.alloc (.cells #[.int .i64 0, .bool false] 42)) := (Below.refl _ _).alloc (Nat.le_refl _) _
  have H1 := Lib.hid (H1.out.step hbk)
  clear hbk
  generalize w2.alloc (.cells #[.int .i64 0, .bool false] 42) = v1 at *
  generalize w2.heap.size = g1 at *
  refine (H1.out.do_ (by omega) 1 (by omega) 1 0 []).mono ?_
  rw [Al.a1]
  rintro e w3 ⟨rfl, ht⟩
  have H2 := Lib.hid (show MyM w w3 P p m lv nvs vv Al.m2 2 from H1.out.done _ _ ht)
  have HE1 := Lib.hid (H1.out.event HE1.out ht)
  clear ht H1
  unfold ansV
  go_wp2_with fail
  have HE2 := Lib.hid (RowAt.made w3 #[.int .i64 0, .bool false] 42)
  have hbk : Below w3.heap.size w3 (w3.alloc (.cells #[.int .i64 0, .bool false] 42)) := (Below.refl _ _).alloc (Nat.le_refl _) _
  have HE1 := Lib.hid (HE1.out.below hbk)
  have H2 := Lib.hid (H2.out.step hbk)
  clear hbk
  generalize w3.alloc (.cells #[.int .i64 0, .bool false] 42) = v2 at *
  generalize w3.heap.size = g2 at *
  refine (H2.out.do_ (by omega) 2 (by omega) 1 0 [120]).mono ?_
  rw [Al.a2]
  rintro e w4 ⟨rfl, ht⟩
  have H3 := Lib.hid (show MyM w w4 P p m lv nvs vv Al.m3 3 from H2.out.done _ _ ht)
  have HE1 := Lib.hid (H2.out.event HE1.out ht)
  have HE2 := Lib.hid (H2.out.event HE2.out ht)
  clear ht H2
  unfold ansV
  go_wp2_with fail
  have HE3 := Lib.hid (RowAt.made w4 #[.int .i64 0, .bool true] 42)
  have hbk : Below w4.heap.size w4 (w4.alloc (.cells #[.int .i64 0, .bool true] 42)) := (Below.refl _ _).alloc (Nat.le_refl _) _
  have HE1 := Lib.hid (HE1.out.below hbk)
  have HE2 := Lib.hid (HE2.out.below hbk)
  have H3 := Lib.hid (H3.out.step hbk)
  clear hbk
  generalize w4.alloc (.cells #[.int .i64 0, .bool true] 42) = v3 at *
  generalize w4.heap.size = g3 at *
  refine (H3.out.do_ (by omega) 2 (by omega) 0 0 [121]).mono ?_
  rw [Al.a3]
  rintro e w5 ⟨rfl, ht⟩
  have H4 := Lib.hid (show MyM w w5 P p m lv nvs vv Al.m4 4 from H3.out.done _ _ ht)
  have HE1 := Lib.hid (H3.out.event HE1.out ht)
  have HE2 := Lib.hid (H3.out.event HE2.out ht)
  have HE3 := Lib.hid (H3.out.event HE3.out ht)
  clear ht H3
  unfold ansV
  go_wp2_with fail
  have HE4 := Lib.hid (RowAt.made w5 #[.int .i64 0, .bool false] 42)
  have hbk : Below w5.heap.size w5 (w5.alloc (.cells #[.int .i64 0, .bool false] 42)) := (Below.refl _ _).alloc (Nat.le_refl _) _
  have HE1 := Lib.hid (HE1.out.below hbk)
  have HE2 := Lib.hid (HE2.out.below hbk)
  have HE3 := Lib.hid (HE3.out.below hbk)
  have H4 := Lib.hid (H4.out.step hbk)
  clear hbk
  generalize w5.alloc (.cells #[.int .i64 0, .bool false] 42) = v4 at *
  generalize w5.heap.size = g4 at *
  refine (H4.out.do_ (by omega) 4 (by omega) 0 0 []).mono ?_
  rw [Al.a4]
  rintro e w6 ⟨rfl, ht⟩
  have H5 := Lib.hid (show MyM w w6 P p m lv nvs vv Al.m5 5 from H4.out.done _ _ ht)
  have HE1 := Lib.hid (H4.out.event HE1.out ht)
  have HE2 := Lib.hid (H4.out.event HE2.out ht)
  have HE3 := Lib.hid (H4.out.event HE3.out ht)
  have HE4 := Lib.hid (H4.out.event HE4.out ht)
  clear ht H4
  unfold ansV
  go_wp2_with fail
  have HE5 := Lib.hid (RowAt.made w6 #[.int .i64 0, .bool false] 42)
  have hbk : Below w6.heap.size w6 (w6.alloc (.cells #[.int .i64 0, .bool false] 42)) := (Below.refl _ _).alloc (Nat.le_refl _) _
  have HE1 := Lib.hid (HE1.out.below hbk)
  have HE2 := Lib.hid (HE2.out.below hbk)
  have HE3 := Lib.hid (HE3.out.below hbk)
  have HE4 := Lib.hid (HE4.out.below hbk)
  have H5 := Lib.hid (H5.out.step hbk)
  clear hbk
  generalize w6.alloc (.cells #[.int .i64 0, .bool false] 42) = v5 at *
  generalize w6.heap.size = g5 at *
  refine (H5.out.do_ (by omega) 0 (by omega) 0 0 []).mono ?_
  rw [Al.a5]
  rintro e w7 ⟨rfl, ht⟩
  have H6 := Lib.hid (show MyM w w7 P p m lv nvs vv Al.m6 6 from H5.out.done _ _ ht)
  have HE1 := Lib.hid (H5.out.event HE1.out ht)
  have HE2 := Lib.hid (H5.out.event HE2.out ht)
  have HE3 := Lib.hid (H5.out.event HE3.out ht)
  have HE4 := Lib.hid (H5.out.event HE4.out ht)
  have HE5 := Lib.hid (H5.out.event HE5.out ht)
  clear ht H5
  unfold ansV
  go_wp2_with fail
  have HE6 := Lib.hid (RowAt.made w7 #[.int .i64 0, .bool false] 42)
  have hbk : Below w7.heap.size w7 (w7.alloc (.cells #[.int .i64 0, .bool false] 42)) := (Below.refl _ _).alloc (Nat.le_refl _) _
  have HE1 := Lib.hid (HE1.out.below hbk)
  have HE2 := Lib.hid (HE2.out.below hbk)
  have HE3 := Lib.hid (HE3.out.below hbk)
  have HE4 := Lib.hid (HE4.out.below hbk)
  have HE5 := Lib.hid (HE5.out.below hbk)
  have H6 := Lib.hid (H6.out.step hbk)
  clear hbk
  generalize w7.alloc (.cells #[.int .i64 0, .bool false] 42) = v6 at *
  generalize w7.heap.size = g6 at *
  refine (HN2.out v6).mono ?_
  rintro e v7 ⟨rfl, hb⟩
  have H7 := Lib.hid (H6.out.step hb)
  have c1 : v7.cell? ⟨g1, 0, none⟩ = some (.int .i64 0) := (HE1.out.below hb).cell 0 (by simp)
  have c2 : v7.cell? ⟨g2, 0, none⟩ = some (.int .i64 0) := (HE2.out.below hb).cell 0 (by simp)
  have c3 : v7.cell? ⟨g3, 1, none⟩ = some (.bool true) := (HE3.out.below hb).cell 1 (by simp)
  have c4 : v7.cell? ⟨g4, 1, none⟩ = some (.bool false) := (HE4.out.below hb).cell 1 (by simp)
  clear hb H6 HE1 HE2 HE3 HE4 HE5 HE6
  have HAL := Lib.hid (malive_any H7.out.mast H7.out.slim)
  go_wp2_with fail
  refine HAL.out.mono ?_
  rw [show numsI (whoL Al.m6.lives fun _ => true) = [1] from by rw [Al.a6]; rfl]
  rintro e v8 ⟨q, cap, rfl, hi, hb, hn⟩
  have HI := Lib.hid (hi.below' (((Below.refl v8.heap.size v8).alloc (Nat.le_refl _) (Obj.cells #[.int .i64 1] 3))))
  have HL := Lib.hid (ints_lit v8 [1])
  have HB := Lib.hid (H7.out.below.trans ((hb.alloc hb.size (Obj.cells #[.int .i64 1] 3)).mono H7.out.below.size))
  clear hi hb hn HAL
  go_wp2_with fail
  refine (same30_any q (some ⟨v8.heap.size, 0, none⟩) cap 1 [1] [1] _ HI.out HL.out (by decide) (by decide)).mono ?_
  rintro e v9 ⟨rfl, hb9⟩
  have HB9 := Lib.hid (HB.out.trans (hb9.mono HB.out.size))
  clear hb9
  go_wp2_with fail
  go_ret
  exact ⟨by simp, HB9.out⟩
end Go.Proofs.YtgmhglcdifhimaaDoor
