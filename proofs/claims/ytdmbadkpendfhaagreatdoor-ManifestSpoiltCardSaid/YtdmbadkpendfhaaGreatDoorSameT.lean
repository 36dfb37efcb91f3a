/- maslinref01.Same: two rows of texts, walked. '[]maslinlaw05.Step', and '[]string', as they came in; Heavy, walked. -/
import Derived.Test.YtdmbadkpendfhaaGreatDoorWalT
import Derived.Test.YtdmbadkpendfhaaGreatDoorTrod2
import Derived.Test.YtdmbadkpendfhaaGreatDoorOct
namespace Go.Proofs.YtdmbadkpendfhaaGreatDoor
open Go.RowKit Go.Maps

set_option maxRecDepth 100000 in
set_option maxHeartbeats 1000000 in
theorem rsame_any (l m : List (List UInt8)) (a a' : Option Addr) (cap cap' : Nat) (w : World) (hl : TextsAt w a l) (hm : TextsAt w a' m) (h1 : l.length ≤ maxLen) (h2 : m.length ≤ maxLen) :
    Calls Tryz.prog 12 #[.slice a l.length cap, .slice a' m.length cap'] w fun e w' => e = .returned (.bool (decide (l = m))) ∧ Below w.heap.size w w' := by
  unfold maxLen at h1 h2
  by_cases hlen : l.length = m.length
  · have HL := Lib.hid hl; have HM := Lib.hid hm; have HLEN := Lib.hid hlen
    have hbe : ((l.length : Int) == (m.length : Int)) = true := by simp [hlen]
    have hbn : ((l.length : Int) != (m.length : Int)) = false := by simp [hlen]
    clear hl hm hlen
    go_enter Tryz.func12, Tryz.ntmps12
    go_wp2_with fail
    go_loopw [5] (fun i wr => ∃ k : Nat, k ≤ l.length ∧ i = .int .i64 k ∧ l.take k = m.take k ∧ Below w.heap.size w wr) (fun i _ => l.length - (intOf i).toNat)
    case atStart => exact ⟨0, by omega, rfl, rfl, Below.refl _ _⟩
    case round =>
      obtain ⟨k, hk, rfl, ht, hb⟩ := hrel
      have HT := Lib.hid ht; have HB := Lib.hid hb
      clear ht hb
      by_cases hlt : k < l.length
      · have hltm : k < m.length := by rw [← HLEN.out]; exact hlt
        obtain ⟨q, hidx, hq⟩ := (HL.out.below HB.out).index cap k hlt
        obtain ⟨q', hidx', hq'⟩ := (HM.out.below HB.out).index cap' k hltm
        have hts1 : l.take (k + 1) = l.take k ++ [l[k]] := List.take_succ_eq_append_getElem hlt
        have hts2 : m.take (k + 1) = m.take k ++ [m[k]] := List.take_succ_eq_append_getElem hltm
        have hne : l[k] ≠ m[k] → l ≠ m := fun h e => h (by subst e; rfl)
        have HTS := Lib.hid (And.intro hts1 hts2)
        have HNE := Lib.hid hne
        clear hts1 hts2 hne
        generalize l[k] = x at *
        generalize m[k] = y at *
        by_cases hxy : x = y
        · subst hxy
          have HR := Lib.hid (show l.take (k + 1) = m.take (k + 1) by rw [HTS.out.1, HTS.out.2, HT.out])
          go_wp2_with fail
          go_quiet (fail)
          go_wp2_with fail
          go_roundw
          case rel => exact ⟨k + 1, by omega, by go_num, HR.out, HB.out.trans ((below_drawn wr _).mono HB.out.size)⟩
          case measure => simp [intOf]; omega
        · have hb1 : (x == y) = false := by simp [hxy]
          have hb2 : (x != y) = true := by simp [hxy]
          have HR := Lib.hid (show decide (l = m) = false by simpa using HNE.out hxy)
          clear hxy
          go_wp2_with fail
          go_quiet (fail)
          go_wp2_with fail
          go_ret
          rw [HR.out]
          exact ⟨rfl, HB.out.trans ((below_drawn wr _).mono HB.out.size)⟩
      · obtain rfl : k = l.length := by omega
        have HR := Lib.hid (show decide (l = m) = true by
          have h := HT.out
          rw [List.take_of_length_le (Nat.le_refl _), List.take_of_length_le (by rw [HLEN.out]; exact Nat.le_refl _)] at h
          simpa using h)
        go_wp2_with fail
        go_ret
        rw [HR.out]
        exact ⟨rfl, HB.out⟩
  · have hbe : ((l.length : Int) == (m.length : Int)) = false := by simp; omega
    have hbn : ((l.length : Int) != (m.length : Int)) = true := by simp; omega
    have HR := Lib.hid (show decide (l = m) = false by simp; exact fun e => hlen (by rw [e]))
    clear hl hm hlen
    go_enter Tryz.func12, Tryz.ntmps12
    go_wp2_with fail
    go_ret
    rw [HR.out]
    exact ⟨rfl, Below.refl _ _⟩
end Go.Proofs.YtdmbadkpendfhaaGreatDoor

namespace Go.Proofs.YtdmbadkpendfhaaGreatDoor
open Go.RowKit Go.WideShapes Go.ChangeShapes Go.Deep

/-- Texts that came in. -/
structure TextsIn (w : World) (v : Value) (l : List (List UInt8)) : Prop where
  at_ : ∃ a cap, v = .slice a l.length cap ∧ TextsAt w a l ∧ (a = none → cap = 0)
  len : l.length ≤ maxLen
  all : ∀ s ∈ l, s.length ≤ reachBytes
theorem TextsIn.below {w w' : World} {v : Value} {l : List (List UInt8)} (h : TextsIn w v l) (hb : Below w.heap.size w w') : TextsIn w' v l := by
  obtain ⟨⟨a, cap, e, h1, h2⟩, h3, h4⟩ := h
  exact ⟨⟨a, cap, e, h1.below hb, h2⟩, h3, h4⟩
/-- Where they lie: nowhere new. -/
theorem TextsAt.old {w : World} {a : Option Addr} {l : List (List UInt8)} (h : TextsAt w a l) : ∀ p, a = some p → l ≠ [] → p.block < w.heap.size := fun p hp hne => by
  have h0 : 0 < l.length := List.length_pos_iff.2 hne
  obtain ⟨q, hq, hc⟩ := h 0 h0
  rw [hp] at hq
  cases hq
  have := block_lt_of_cell hc
  rwa [add_block] at this

set_option maxRecDepth 100000 in
theorem texts_core {H : Type} {enc : TypeId × Value → H} {W : World} {base : Nat} {sp : Nat → Bool} {hd : Bool} {n : Nat} {cs : List Value} {y : DataW H × List MemPlace}
    (h : DataW.trod enc Tryz.prog W base sp hd n 23 cs = some y) (hz : ∀ n ∈ DataW.weights Tryz.prog 23 y.1, n ≤ reachBytes) : ∃ v l, cs = [v] ∧ TextsIn W v l := by
  rcases Go.Deep.open_slice Tryz.underlying23 h with ⟨rfl, _⟩ | ⟨a, len, cap, m, k, D, Pl, rfl, _, hl, hm, hmm, hx, hi⟩
  · exact ⟨_, [], rfl, ⟨none, 0, rfl, fun i hi => by simp at hi, fun _ => rfl⟩, by simp, by simp⟩
  · have hC : Tryz.prog.cellsOf 9 = 1 := by kernel_rfl
    rw [hC] at hi
    have hlm : len ≤ m := by rw [hmm]; split <;> omega
    obtain ⟨l, hll, hP⟩ := list_of (P := fun i (x : List UInt8) => W.cell? (a.add i) = some (.string (bs x)) ∧ x.length ≤ reachBytes) len (fun i hil => by
      obtain ⟨cs', h1, h2⟩ := hi i (by omega)
      obtain ⟨_, hl1, hat⟩ := World.cells?_some h1
      obtain ⟨v, e1, e2, _⟩ := DataW.trod_string Tryz.underlying9 h2
      subst e1
      refine ⟨v.data.toList, ?_, ?_⟩
      · have := hat 0 (by omega)
        rw [add_zero', Nat.mul_one] at this
        rw [this]; rfl
      · refine hz _ ?_
        have hD : D i = .lit (.string v.data.toList) := congrArg Prod.fst e2
        rw [hx]
        simp only [DataW.weights, Tryz.underlying23]
        exact List.mem_cons_of_mem _ (List.mem_append_left _ (weights_all (List.mem_map.2 ⟨i, List.mem_range.2 hil, rfl⟩) (by rw [hD]; simp [DataW.weights]))))
    refine ⟨_, l, rfl, ⟨some a, cap, by rw [hll], fun i hil => ⟨a, rfl, (hP i hil).1⟩, fun e => by cases e⟩, by omega, fun x hxm => ?_⟩
    obtain ⟨i, hil, rfl⟩ := List.getElem_of_mem hxm
    exact (hP i hil).2
set_option maxRecDepth 100000 in
theorem texts_of_trod {H : Type} {enc : TypeId × Value → H} {W : World} {base : Nat} {v : Value} {d : DataW H} {p : List MemPlace}
    (ho : Value.okWide Tryz.prog W .any base 23 v) (h : DataW.Trod enc Tryz.prog W 0 (fun _ => true) true 23 v d p) (hz : ∀ n ∈ DataW.weights Tryz.prog 23 d, (decide (n ≤ reachBytes)) = true) : ∃ l, TextsIn W v l := by
  obtain ⟨a0, len, cap, rfl⟩ := okWide_slice Tryz.underlying23 ho
  obtain ⟨fuel, hf⟩ := h
  obtain ⟨v, l, e, ht⟩ := texts_core hf (fun n hn => of_decide_eq_true (hz n hn))
  simp [Value.cells] at e
  subst e
  exact ⟨l, ht⟩

structure WStp where
  what : Int
  n : Int
  l : List (List UInt8)
  keep : List UInt8
/-- A step lies at an address. -/
structure WStpAt (w : World) (q : Addr) (x : WStp) : Prop where
  c0 : w.cell? (q.add 0) = some (.int .i64 x.what)
  c1 : w.cell? (q.add 1) = some (.int .i64 x.n)
  c2 : ∃ v, w.cell? (q.add 2) = some v ∧ TextsIn w v x.l
  c3 : w.cell? (q.add 3) = some (.string (bs x.keep))
theorem WStpAt.below {w w' : World} {q : Addr} {x : WStp} (h : WStpAt w q x) (hb : Below w.heap.size w w') : WStpAt w' q x := by
  obtain ⟨h0, h1, ⟨v, h2, h3⟩, h4⟩ := h
  exact ⟨(hb.cell (block_lt_of_cell h0)).trans h0, (hb.cell (block_lt_of_cell h1)).trans h1, ⟨v, (hb.cell (block_lt_of_cell h2)).trans h2, h3.below hb⟩, (hb.cell (block_lt_of_cell h4)).trans h4⟩
theorem WStpAt.cells {w : World} {q : Addr} {x : WStp} (h : WStpAt w q x) : w.cell? q = some (.int .i64 x.what) ∧ w.cell? ⟨q.block, q.off + 1, none⟩ = some (.int .i64 x.n) ∧ (∃ v, w.cell? ⟨q.block, q.off + 2, none⟩ = some v ∧ TextsIn w v x.l) ∧
    w.cell? ⟨q.block, q.off + 3, none⟩ = some (.string (bs x.keep)) := by
  refine ⟨?_, h.c1, h.c2, h.c3⟩
  rw [← add_zero' q]
  exact h.c0
/-- A row of steps behind an address. -/
def WStepsAt (w : World) (a : Option Addr) (l : List WStp) : Prop := ∀ i, (h : i < l.length) → ∃ p : Addr, a = some p ∧ WStpAt w (p.add (i * 4)) l[i]
theorem WStepsAt.below {w w' : World} {a : Option Addr} {l : List WStp} (h : WStepsAt w a l) (hb : Below w.heap.size w w') : WStepsAt w' a l := fun i hi => by
  obtain ⟨p, hp, h1⟩ := h i hi
  exact ⟨p, hp, h1.below hb⟩
def WStp.okay (x : WStp) : Prop := (Lit.int .i64 x.what).wf = true ∧ (Lit.int .i64 x.n).wf = true ∧ x.keep.length ≤ reachBytes

end Go.Proofs.YtdmbadkpendfhaaGreatDoor
