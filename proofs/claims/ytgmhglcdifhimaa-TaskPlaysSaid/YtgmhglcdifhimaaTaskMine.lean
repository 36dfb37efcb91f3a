/- A board of one's own, what becomes of it; maslinref30.Same, maslinlaw30.alive, walked. -/
import Derived.Test.YtgmhglcdifhimaaTaskNew
namespace Go.Proofs.Ytgmhglcdifhimaa
open Go.RowKit Go.Maps Go.Sort
open Tsk

/-- A board that was made since w0, and on which k things were done. -/
structure MyB (w0 w : World) (p m : Nat) (lv : Value) (nvs : List Value) (b : Board) (k : Nat) : Prop where
  board : BoardIn w p m lv nvs b
  fine : b.Fine k
  below : Below w0.heap.size w0 w
  new : ∀ i, boardBlocks p m lv i → w0.heap.size ≤ i
section
variable {w0 w w' : World} {p m : Nat} {lv : Value} {nvs : List Value} {b b' : Board} {k k' : Nat}
theorem MyB.step (h : MyB w0 w p m lv nvs b k) (hb : Below w.heap.size w w') : MyB w0 w' p m lv nvs b k :=
  ⟨h.board.below hb, h.fine, h.below.trans (hb.mono h.below.size), h.new⟩
theorem MyB.to (h : MyB w0 w p m lv nvs b k) (ht : BoardTo w w' p m lv nvs b') (hf : b'.Fine k') : MyB w0 w' p m lv nvs b' k' :=
  ⟨ht.board, hf, below_upd h.below ht.upd h.new h.below.size, h.new⟩
theorem MyB.start (h : MyB w0 w p m lv nvs b k) (t x : Int) (ht : BoardTo w w' p m lv nvs (b.start t x).1) : MyB w0 w' p m lv nvs (b.start t x).1 (k + 1) := h.to ht (h.fine.start t x)
theorem MyB.commit (h : MyB w0 w p m lv nvs b k) (x : Int) (v : List UInt8) (ht : BoardTo w w' p m lv nvs (b.commit x v).1) : MyB w0 w' p m lv nvs (b.commit x v).1 k := h.to ht (h.fine.commit x v)
theorem MyB.fail (h : MyB w0 w p m lv nvs b k) (x : Int) (ht : BoardTo w w' p m lv nvs (b.fail x).1) : MyB w0 w' p m lv nvs (b.fail x).1 (k + 1) := h.to ht (h.fine.fail x)
end
theorem IntsAt.keep {F : Nat → Prop} {w w' : World} {a : Option Addr} {l : List Int} (h : IntsAt w a l) (hu : Upd F w w') (hF : ∀ p, a = some p → ¬ F p.block) : IntsAt w' a l := fun i hi => by
  obtain ⟨q, e, hc⟩ := h i hi
  refine ⟨q, e, ?_⟩
  have hlt := block_lt_of_cell hc
  rw [← hc]
  refine hu.cell (p := q.add i) hlt ?_
  rw [add_block]
  exact hF q e
theorem ints_lit (w : World) (l : List Int) : IntsAt (w.alloc (.cells (l.map encZ).toArray 3)) (some ⟨w.heap.size, 0, none⟩) l := fun i hi => by
  refine ⟨_, rfl, ?_⟩
  rw [add_plain, cell_new_row, List.getElem?_toArray, List.getElem?_map, List.getElem?_eq_getElem hi]
  rfl

set_option maxRecDepth 100000 in
set_option maxHeartbeats 1000000 in
theorem same30_any (a c : Option Addr) (cap cap' : Nat) (l m : List Int) (w : World) (ha : IntsAt w a l) (hc : IntsAt w c m) (hl : l.length ≤ 1000000000) (hm : m.length ≤ 1000000000) :
    Calls Try.prog 28 #[.slice a l.length cap, .slice c m.length cap'] w fun e w' => e = .returned (.bool (decide (l = m))) ∧ Below w.heap.size w w' := by
  by_cases hlen : l.length = m.length
  · have HA := Lib.hid ha; have HC := Lib.hid hc
    have hlb : (l.length != m.length) = false := by simpa using hlen
    have HLEN := Lib.hid hlen
    have hle : m.length ≤ l.length := by omega
    have hge : l.length ≤ m.length := by omega
    clear ha hc hlen
    go_enter Try.func28, Try.ntmps28
    go_wp2_with fail
    go_loopw [5] (fun i wr => ∃ k : Nat, k ≤ l.length ∧ i = .int .i64 k ∧ Below w.heap.size w wr ∧ l.take k = m.take k) (fun i _ => l.length - (intOf i).toNat)
    case atStart => exact ⟨0, Nat.zero_le _, rfl, Below.refl _ _, by simp⟩
    case round =>
      obtain ⟨k, hk, rfl, hb, htk⟩ := hrel
      have HB := Lib.hid hb; have HTK := Lib.hid htk
      clear hb htk
      by_cases hlt : k < l.length
      · have hlt2 : k < m.length := by omega
        obtain ⟨q1, hi1, hc1⟩ := (HA.out.below' HB.out).index cap k hlt
        obtain ⟨q2, hi2, hc2⟩ := (HC.out.below' HB.out).index cap' k hlt2
        have HEQ := Lib.hid (show l[k] = m[k] → l.take (k + 1) = m.take (k + 1) from fun h => by rw [List.take_succ_eq_append_getElem hlt, List.take_succ_eq_append_getElem hlt2, HTK.out, h])
        have HNE := Lib.hid (show ¬ l[k] = m[k] → ¬ l = m from fun h e => h (by subst e; rfl))
        generalize l[k] = x, m[k] = y at *
        have hd1 := HB.out.drew
        by_cases hxy : x = y
        · have hb1 : (x != y) = false := by simpa using hxy
          have HE := Lib.hid (HEQ.out hxy)
          clear hxy HEQ HNE
          go_wp2_with fail
          go_region
          go_wp2_with fail
          go_roundw
          case rel => exact ⟨k + 1, by omega, by go_num, HB.out.drew, HE.out⟩
          case measure => simp [intOf]; omega
        · have hb1 : (x != y) = true := by simpa using hxy
          have HE := Lib.hid (HNE.out hxy)
          clear hxy HEQ HNE
          go_wp2_with fail
          go_region
          go_wp2_with fail
          go_ret
          exact ⟨by rw [decide_eq_false HE.out]; rfl, HB.out.drew⟩
      · obtain rfl : k = l.length := by omega
        have HE := Lib.hid (show l = m from by
          have h := HTK.out
          rw [List.take_length, HLEN.out, List.take_length] at h
          exact h)
        go_wp2_with fail
        go_ret
        exact ⟨by rw [decide_eq_true HE.out]; rfl, HB.out⟩
  · have HNE := Lib.hid (show ¬ l = m from fun e => hlen (by rw [e]))
    have hlb : (l.length != m.length) = true := by simpa using hlen
    clear ha hc hlen
    go_enter Try.func28, Try.ntmps28
    go_wp2_with fail
    go_ret
    exact ⟨by rw [decide_eq_false HNE.out]; rfl, Below.refl _ _⟩

/-! ### alive -/
def al0 : Board := Board.new (natsL [[], [0]]) (0 : Int).toNat
def al1 : Board := (al0.start 1 5).1
def al2 : Board := (al1.start 0 5).1
def al3 : Board := (al2.commit 5 [120]).1
def al4 : Board := (al3.start 1 5).1
def al5 : Board := (al4.fail 5).1
theorem al_r0 : al0.ready = [0] := by decide +kernel
theorem al_s1 : (al0.start 1 5).2 = 3 := by decide +kernel
theorem al_s2 : (al1.start 0 5).2 = 0 := by decide +kernel
theorem al_c3 : (al2.commit 5 [120]).2 = (true, 0) := by decide +kernel
theorem al_r3 : al3.ready = [1] := by decide +kernel
theorem al_s4 : (al3.start 1 5).2 = 0 := by decide +kernel
theorem al_f5 : (al4.fail 5).2 = 0 := by decide +kernel
theorem al_o5 : al5.failed = some 1 := by decide +kernel
theorem al_s6 : (al5.start 1 6).2 = 301 := by decide +kernel
theorem al_may : MayB [[], [0]] 0 := by
  refine ⟨by decide, by decide, by decide, fun t ht => ?_⟩
  match t, ht with
  | 0, _ => exact ⟨fun n hn => (by cases hn), List.nodup_nil⟩
  | 1, _ => exact ⟨fun n hn => by simp at hn; subst hn; decide, by simp⟩
  | t + 2, ht => exact absurd ht (by simp)
theorem al_may2 : ¬ MayB [[0]] 0 := fun h => by
  have := (h.2.2.2 0 (by decide)).1 0 (by simp)
  omega
theorem al_needs (w : World) : NeedsAt ((w.alloc (.cells #[.int .i64 0] 3)).alloc (.cells #[.slice none 0 0, .slice (some ⟨w.heap.size, 0, none⟩) 1 1] 39)) (some ⟨w.heap.size + 1, 0, none⟩) [[], [0]] := fun i hi => by
  have hb : Below (w.alloc (.cells #[.int .i64 0] 3)).heap.size (w.alloc (.cells #[.int .i64 0] 3)) ((w.alloc (.cells #[.int .i64 0] 3)).alloc (.cells #[.slice none 0 0, .slice (some ⟨w.heap.size, 0, none⟩) 1 1] 39)) := (Below.refl _ _).alloc (Nat.le_refl _) _
  have hc : ∀ j, ((w.alloc (.cells #[.int .i64 0] 3)).alloc (.cells #[.slice none 0 0, .slice (some ⟨w.heap.size, 0, none⟩) 1 1] 39)).cell? ⟨w.heap.size + 1, j, none⟩ = #[Value.slice none 0 0, .slice (some ⟨w.heap.size, 0, none⟩) 1 1][j]? := fun j => by
    have := cell_new_row (w.alloc (.cells #[.int .i64 0] 3)) #[.slice none 0 0, .slice (some ⟨w.heap.size, 0, none⟩) 1 1] 39 j
    rwa [World.size_alloc] at this
  match i, hi with
  | 0, _ => exact ⟨_, .slice none 0 0, rfl, by rw [add_plain, hc]; rfl, ⟨none, 0, rfl, fun i hi => absurd hi (Nat.not_lt_zero i), fun _ => rfl⟩, Nat.zero_le _, fun x hx => by cases hx⟩
  | 1, _ => exact ⟨_, .slice (some ⟨w.heap.size, 0, none⟩) 1 1, rfl, by rw [add_plain, hc]; rfl, ⟨_, 1, rfl, (ints_lit w [0]).below' hb, fun e => (by cases e)⟩, (show 1 ≤ 140737488355328 by decide), fun x hx => by simp at hx; subst hx; decide⟩
  | i + 2, hi => exact absurd hi (by simp)
theorem al_needs2 (w : World) : NeedsAt ((w.alloc (.cells #[.int .i64 0] 3)).alloc (.cells #[.slice (some ⟨w.heap.size, 0, none⟩) 1 1] 39)) (some ⟨w.heap.size + 1, 0, none⟩) [[0]] := fun i hi => by
  have hb : Below (w.alloc (.cells #[.int .i64 0] 3)).heap.size (w.alloc (.cells #[.int .i64 0] 3)) ((w.alloc (.cells #[.int .i64 0] 3)).alloc (.cells #[.slice (some ⟨w.heap.size, 0, none⟩) 1 1] 39)) := (Below.refl _ _).alloc (Nat.le_refl _) _
  match i, hi with
  | 0, _ =>
    refine ⟨_, .slice (some ⟨w.heap.size, 0, none⟩) 1 1, rfl, ?_, ⟨_, 1, rfl, (ints_lit w [0]).below' hb, fun e => (by cases e)⟩, (show 1 ≤ 140737488355328 by decide), fun x hx => by simp at hx; subst hx; decide⟩
    have := cell_new_row (w.alloc (.cells #[.int .i64 0] 3)) #[.slice (some ⟨w.heap.size, 0, none⟩) 1 1] 39 0
    rw [World.size_alloc] at this
    rw [add_plain, this]
    rfl
  | i + 1, hi => exact absurd hi (by simp)
set_option maxRecDepth 100000 in
set_option maxHeartbeats 4000000 in
theorem alive30_any (w : World) : Calls Try.prog 9 #[] w fun e w' => e = .returned (.bool true) ∧ Below w.heap.size w w' := by
  have HN1 := Lib.hid (fun (W : World) => (new_yes (some ⟨W.heap.size + 1, 0, none⟩) 2 [[], [0]] 0 _ (al_needs W) al_may))
  have HN2 := Lib.hid (fun (W : World) => (new_no (some ⟨W.heap.size + 1, 0, none⟩) 1 [[0]] 0 _ (al_needs2 W) (by decide) al_may2))
  go_enter Try.func9, Try.ntmps9
  go_wp2_with fail
  refine (HN1.out w).mono ?_
  rintro e w1 ⟨p, m, lv, nvs, rfl, hB, hb, hnew⟩
  have H0 := Lib.hid (show MyB w w1 p m lv nvs al0 0 from ⟨hB, new_fine al_may, (((Below.refl _ _).alloc (Nat.le_refl _) _).alloc (by simp) _).trans (hb.mono (by simp; omega)), fun i hi => by have := hnew i hi; simp at this; omega⟩)
  clear hB hb hnew
  go_wp2_with fail
  refine (ready_any H0.out.board H0.out.fine (by omega)).mono ?_
  rw [al_r0]
  rintro e w2 ⟨q0, c0, rfl, hr, hb, hq⟩
  have HR := Lib.hid hr; have HQ := Lib.hid (show ∀ a, q0 = some a → ¬ boardBlocks p m lv a.block from fun a ha hk => by have := hq a ha; have := H0.out.board.lt _ hk; omega)
  have H1 := Lib.hid (H0.out.step hb)
  clear hr hb hq H0
  go_wp2_with fail
  refine (start_any H1.out.board H1.out.fine (by omega) 1 5 (by decide)).mono ?_
  rw [al_s1]
  rintro e w3 ⟨rfl, ht⟩
  have H2 := Lib.hid (show MyB w w3 p m lv nvs al1 1 from H1.out.start 1 5 ht)
  have HR1 := Lib.hid (HR.out.keep ht.upd HQ.out)
  clear ht H1 HR
  go_wp2_with fail
  refine (start_any H2.out.board H2.out.fine (by omega) 0 5 (by decide)).mono ?_
  rw [al_s2]
  rintro e w4 ⟨rfl, ht⟩
  have H3 := Lib.hid (show MyB w w4 p m lv nvs al2 2 from H2.out.start 0 5 ht)
  have HR2 := Lib.hid (HR1.out.keep ht.upd HQ.out)
  clear ht H2 HR1
  go_wp2_with fail
  refine (commit_any H3.out.board H3.out.fine 5 (by decide) [120]).mono ?_
  rw [al_c3]
  rintro e w5 ⟨rfl, ht⟩
  have H4 := Lib.hid (show MyB w w5 p m lv nvs al3 2 from H3.out.commit 5 [120] ht)
  have HR3 := Lib.hid (HR2.out.keep ht.upd HQ.out)
  clear ht H3 HR2
  go_wp2_with fail
  refine (ready_any H4.out.board H4.out.fine (by omega)).mono ?_
  rw [al_r3]
  rintro e w6 ⟨q1, c1, rfl, hr, hb, hq⟩
  have HS := Lib.hid hr; have HQ1 := Lib.hid (show ∀ a, q1 = some a → ¬ boardBlocks p m lv a.block from fun a ha hk => by have := hq a ha; have := H4.out.board.lt _ hk; omega)
  have H5 := Lib.hid (H4.out.step hb)
  have HR4 := Lib.hid (HR3.out.below' hb)
  clear hr hb hq H4 HR3
  go_wp2_with fail
  refine (start_any H5.out.board H5.out.fine (by omega) 1 5 (by decide)).mono ?_
  rw [al_s4]
  rintro e w7 ⟨rfl, ht⟩
  have H6 := Lib.hid (show MyB w w7 p m lv nvs al4 3 from H5.out.start 1 5 ht)
  have HR5 := Lib.hid (HR4.out.keep ht.upd HQ.out)
  have HS1 := Lib.hid (HS.out.keep ht.upd HQ1.out)
  clear ht H5 HR4 HS
  go_wp2_with fail
  refine (fail_any H6.out.board H6.out.fine (by omega) 5 (by decide)).mono ?_
  rw [al_f5]
  rintro e w8 ⟨rfl, ht⟩
  have H7 := Lib.hid (show MyB w w8 p m lv nvs al5 4 from H6.out.fail 5 ht)
  have HR6 := Lib.hid (HR5.out.keep ht.upd HQ.out)
  have HS2 := Lib.hid (HS1.out.keep ht.upd HQ1.out)
  clear ht H6 HR5 HS1
  go_wp2_with fail
  refine (over_any H7.out.board).mono ?_
  rw [al_o5]
  rintro e w9 ⟨rfl, rfl⟩
  simp only [Option.getD_some, Option.isSome_some]
  go_wp2_with fail
  refine (HN2.out w8).mono ?_
  rintro e w9 ⟨rfl, hb⟩
  have hb' : Below w8.heap.size w8 w9 := (((Below.refl _ _).alloc (Nat.le_refl _) _).alloc (by simp) _).trans (hb.mono (by simp; omega))
  have H8 := Lib.hid (H7.out.step hb')
  have HR7 := Lib.hid (HR6.out.below' hb')
  have HS3 := Lib.hid (HS2.out.below' hb')
  clear hb hb' H7 HR6 HS2
  have HE1 := Lib.hid (fun (W : World) => (Below.refl W.heap.size W).alloc (Nat.le_refl _) (.cells #[.int .i64 0] 3))
  have HE2 := Lib.hid (fun (W : World) => (Below.refl W.heap.size W).alloc (Nat.le_refl _) (.cells #[.int .i64 1] 3))
  go_wp2_with fail
  refine (same30_any q0 _ c0 1 [0] [0] _ (HR7.out.below' (HE1.out w9)) (ints_lit w9 [0]) (by decide) (by decide)).mono ?_
  rintro e w10 ⟨rfl, hb⟩
  have hb' : Below w9.heap.size w9 w10 := (HE1.out w9).trans (hb.mono (by simp))
  have H9 := Lib.hid (H8.out.step hb')
  have HS4 := Lib.hid (HS3.out.below' hb')
  clear hb hb' H8 HS3
  go_wp2_with fail
  refine (same30_any q1 _ c1 1 [1] [1] _ (HS4.out.below' (HE2.out w10)) (ints_lit w10 [1]) (by decide) (by decide)).mono ?_
  rintro e w11 ⟨rfl, hb⟩
  have hb' : Below w10.heap.size w10 w11 := (HE2.out w10).trans (hb.mono (by simp))
  have H10 := Lib.hid (H9.out.step hb')
  clear hb hb' H9
  go_wp2_with fail
  refine (start_any H10.out.board H10.out.fine (by omega) 1 6 (by decide)).mono ?_
  rw [al_s6]
  rintro e w12 ⟨rfl, ht⟩
  have H11 := Lib.hid (H10.out.start 1 6 ht)
  clear ht H10
  go_wp2_with fail
  go_ret
  exact ⟨rfl, H11.out.below⟩
end Go.Proofs.Ytgmhglcdifhimaa
