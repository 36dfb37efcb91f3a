/- A board of one's own, what becomes of it; maslinref30.Same, walked. -/
import Derived.Test.YtgmhglcdifhimaaDoorTaskNew
namespace Go.Proofs.YtgmhglcdifhimaaDoor
open Go.RowKit Go.Maps Go.Sort
open Tsk

/-- A board that was made since w0, and on which k things were done. -/
structure MyB (w0 w : World) (p m : Nat) (lv : Value) (nvs : List Value) (b : Board) (k : Nat) : Prop where
  board : BoardIn w p m lv nvs b
  fine : b.Fine k
  below : Below w0.heap.size w0 w
  new : ∀ i, boardBlocks p m lv i → w0.heap.size ≤ i
section
variable {w0 w w' : World} {p m : Nat} {lv : Value} {nvs : List Value} {b b' : Board} {k k' : Nat}
theorem MyB.step (h : MyB w0 w p m lv nvs b k) (hb : Below w.heap.size w w') : MyB w0 w' p m lv nvs b k :=
  ⟨h.board.below hb, h.fine, h.below.trans (hb.mono h.below.size), h.new⟩
theorem MyB.to (h : MyB w0 w p m lv nvs b k) (ht : BoardTo w w' p m lv nvs b') (hf : b'.Fine k') : MyB w0 w' p m lv nvs b' k' :=
  ⟨ht.board, hf, below_upd h.below ht.upd h.new h.below.size, h.new⟩
theorem MyB.start (h : MyB w0 w p m lv nvs b k) (t x : Int) (ht : BoardTo w w' p m lv nvs (b.start t x).1) : MyB w0 w' p m lv nvs (b.start t x).1 (k + 1) := h.to ht (h.fine.start t x)
theorem MyB.commit (h : MyB w0 w p m lv nvs b k) (x : Int) (v : List UInt8) (ht : BoardTo w w' p m lv nvs (b.commit x v).1) : MyB w0 w' p m lv nvs (b.commit x v).1 k := h.to ht (h.fine.commit x v)
theorem MyB.fail (h : MyB w0 w p m lv nvs b k) (x : Int) (ht : BoardTo w w' p m lv nvs (b.fail x).1) : MyB w0 w' p m lv nvs (b.fail x).1 (k + 1) := h.to ht (h.fine.fail x)
end
theorem IntsAt.keep {F : Nat → Prop} {w w' : World} {a : Option Addr} {l : List Int} (h : IntsAt w a l) (hu : Upd F w w') (hF : ∀ p, a = some p → ¬ F p.block) : IntsAt w' a l := fun i hi => by
  obtain ⟨q, e, hc⟩ := h i hi
  refine ⟨q, e, ?_⟩
  have hlt := block_lt_of_cell hc
  rw [← hc]
  refine hu.cell (p := q.add i) hlt ?_
  rw [add_block]
  exact hF q e
theorem ints_lit (w : World) (l : List Int) : IntsAt (w.alloc (.cells (l.map encZ).toArray 3)) (some ⟨w.heap.size, 0, none⟩) l := fun i hi => by
  refine ⟨_, rfl, ?_⟩
  rw [add_plain, cell_new_row, List.getElem?_toArray, List.getElem?_map, List.getElem?_eq_getElem hi]
  rfl

set_option maxRecDepth 100000 in
set_option maxHeartbeats 1000000 in
theorem same30_any (a c : Option Addr) (cap cap' : Nat) (l m : List Int) (w : World) (ha : IntsAt w a l) (hc : IntsAt w c m) (hl : l.length ≤ 1000000000) (hm : m.length ≤ 1000000000) :
    Calls Tryd.prog 30 #[.slice a l.length cap, .slice c m.length cap'] w fun e w' => e = .returned (.bool (decide (l = m))) ∧ Below w.heap.size w w' := by
  by_cases hlen : l.length = m.length
  · have HA := Lib.hid ha; have HC := Lib.hid hc
    have hlb : (l.length != m.length) = false := by simpa using hlen
    have HLEN := Lib.hid hlen
    have hle : m.length ≤ l.length := by omega
    have hge : l.length ≤ m.length := by omega
    clear ha hc hlen
    go_enter Tryd.func30, Tryd.ntmps30
    go_wp2_with fail
    go_loopw [5] (fun i wr => ∃ k : Nat, k ≤ l.length ∧ i = .int .i64 k ∧ Below w.heap.size w wr ∧ l.take k = m.take k) (fun i _ => l.length - (intOf i).toNat)
    case atStart => exact ⟨0, Nat.zero_le _, rfl, Below.refl _ _, by simp⟩
    case round =>
      obtain ⟨k, hk, rfl, hb, htk⟩ := hrel
      have HB := Lib.hid hb; have HTK := Lib.hid htk
      clear hb htk
      by_cases hlt : k < l.length
      · have hlt2 : k < m.length := by omega
        obtain ⟨q1, hi1, hc1⟩ := (HA.out.below' HB.out).index cap k hlt
        obtain ⟨q2, hi2, hc2⟩ := (HC.out.below' HB.out).index cap' k hlt2
        have HEQ := Lib.hid (show l[k] = m[k] → l.take (k + 1) = m.take (k + 1) from fun h => by rw [List.take_succ_eq_append_getElem hlt, List.take_succ_eq_append_getElem hlt2, HTK.out, h])
        have HNE := Lib.hid (show ¬ l[k] = m[k] → ¬ l = m from fun h e => h (by subst e; rfl))
        generalize l[k] = x, m[k] = y at *
        have hd1 := HB.out.drew
        by_cases hxy : x = y
        · have hb1 : (x != y) = false := by simpa using hxy
          have HE := Lib.hid (HEQ.out hxy)
          clear hxy HEQ HNE
          go_wp2_with fail
          go_region
          go_wp2_with fail
          go_roundw
          case rel => exact ⟨k + 1, by omega, by go_num, HB.out.drew, HE.out⟩
          case measure => simp [intOf]; omega
        · have hb1 : (x != y) = true := by simpa using hxy
          have HE := Lib.hid (HNE.out hxy)
          clear hxy HEQ HNE
          go_wp2_with fail
          go_region
          go_wp2_with fail
          go_ret
          exact ⟨by rw [decide_eq_false HE.out]; rfl, HB.out.drew⟩
      · obtain rfl : k = l.length := by omega
        have HE := Lib.hid (show l = m from by
          have h := HTK.out
          rw [List.take_length, HLEN.out, List.take_length] at h
          exact h)
        go_wp2_with fail
        go_ret
        exact ⟨by rw [decide_eq_true HE.out]; rfl, HB.out⟩
  · have HNE := Lib.hid (show ¬ l = m from fun e => hlen (by rw [e]))
    have hlb : (l.length != m.length) = true := by simpa using hlen
    clear ha hc hlen
    go_enter Tryd.func30, Tryd.ntmps30
    go_wp2_with fail
    go_ret
    exact ⟨by rw [decide_eq_false HNE.out]; rfl, Below.refl _ _⟩

/-! ### alive -/
def al0 : Board := Board.new (natsL [[], [0]]) (0 : Int).toNat
def al1 : Board := (al0.start 1 5).1
def al2 : Board := (al1.start 0 5).1
def al3 : Board := (al2.commit 5 [120]).1
def al4 : Board := (al3.start 1 5).1
def al5 : Board := (al4.fail 5).1
theorem al_r0 : al0.ready = [0] := by decide +kernel
theorem al_s1 : (al0.start 1 5).2 = 3 := by decide +kernel
theorem al_s2 : (al1.start 0 5).2 = 0 := by decide +kernel
theorem al_c3 : (al2.commit 5 [120]).2 = (true, 0) := by decide +kernel
theorem al_r3 : al3.ready = [1] := by decide +kernel
theorem al_s4 : (al3.start 1 5).2 = 0 := by decide +kernel
theorem al_f5 : (al4.fail 5).2 = 0 := by decide +kernel
theorem al_o5 : al5.failed = some 1 := by decide +kernel
theorem al_s6 : (al5.start 1 6).2 = 301 := by decide +kernel
theorem al_may : MayB [[], [0]] 0 := by
  refine ⟨by decide, by decide, by decide, fun t ht => ?_⟩
  match t, ht with
  | 0, _ => exact ⟨fun n hn => (by cases hn), List.nodup_nil⟩
  | 1, _ => exact ⟨fun n hn => by simp at hn; subst hn; decide, by simp⟩
  | t + 2, ht => exact absurd ht (by simp)
theorem al_may2 : ¬ MayB [[0]] 0 := fun h => by
  have := (h.2.2.2 0 (by decide)).1 0 (by simp)
  omega
theorem al_needs (w : World) : NeedsAt ((w.alloc (.cells #[.int .i64 0] 3)).alloc (.cells #[.slice none 0 0, .slice (some ⟨w.heap.size, 0, none⟩) 1 1] 31)) (some ⟨w.heap.size + 1, 0, none⟩) [[], [0]] := fun i hi => by
  have hb : Below (w.alloc (.cells #[.int .i64 0] 3)).heap.size (w.alloc (.cells #[.int .i64 0] 3)) ((w.alloc (.cells #[.int .i64 0] 3)).alloc (.cells #[.slice none 0 0, .slice (some ⟨w.heap.size, 0, none⟩) 1 1] 31)) := (Below.refl _ _).alloc (Nat.le_refl _) _
  have hc : ∀ j, ((w.alloc (.cells #[.int .i64 0] 3)).alloc (.cells #[.slice none 0 0, .slice (some ⟨w.heap.size, 0, none⟩) 1 1] 31)).cell? ⟨w.heap.size + 1, j, none⟩ = #[Value.slice none 0 0, .slice (some ⟨w.heap.size, 0, none⟩) 1 1][j]? := fun j => by
    have := cell_new_row (w.alloc (.cells #[.int .i64 0] 3)) #[.slice none 0 0, .slice (some ⟨w.heap.size, 0, none⟩) 1 1] 31 j
    rwa [World.size_alloc] at this
  match i, hi with
  | 0, _ => exact ⟨_, .slice none 0 0, rfl, by rw [add_plain, hc]; rfl, ⟨none, 0, rfl, fun i hi => absurd hi (Nat.not_lt_zero i), fun _ => rfl⟩, Nat.zero_le _, fun x hx => by cases hx⟩
  | 1, _ => exact ⟨_, .slice (some ⟨w.heap.size, 0, none⟩) 1 1, rfl, by rw [add_plain, hc]; rfl, ⟨_, 1, rfl, (ints_lit w [0]).below' hb, fun e => (by cases e)⟩, (show 1 ≤ 140737488355328 by decide), fun x hx => by simp at hx; subst hx; decide⟩
  | i + 2, hi => exact absurd hi (by simp)
theorem al_needs2 (w : World) : NeedsAt ((w.alloc (.cells #[.int .i64 0] 3)).alloc (.cells #[.slice (some ⟨w.heap.size, 0, none⟩) 1 1] 31)) (some ⟨w.heap.size + 1, 0, none⟩) [[0]] := fun i hi => by
  have hb : Below (w.alloc (.cells #[.int .i64 0] 3)).heap.size (w.alloc (.cells #[.int .i64 0] 3)) ((w.alloc (.cells #[.int .i64 0] 3)).alloc (.cells #[.slice (some ⟨w.heap.size, 0, none⟩) 1 1] 31)) := (Below.refl _ _).alloc (Nat.le_refl _) _
  match i, hi with
  | 0, _ =>
    refine ⟨_, .slice (some ⟨w.heap.size, 0, none⟩) 1 1, rfl, ?_, ⟨_, 1, rfl, (ints_lit w [0]).below' hb, fun e => (by cases e)⟩, (show 1 ≤ 140737488355328 by decide), fun x hx => by simp at hx; subst hx; decide⟩
    have := cell_new_row (w.alloc (.cells #[.int .i64 0] 3)) #[.slice (some ⟨w.heap.size, 0, none⟩) 1 1] 31 0
    rw [World.size_alloc] at this
    rw [add_plain, this]
    rfl
  | i + 1, hi => exact absurd hi (by simp)
end Go.Proofs.YtgmhglcdifhimaaDoor
