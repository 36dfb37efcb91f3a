/- SameT -/
import Derived.Test.YtoaihngckcbhiaaGreatDoorPkWalT
import Derived.Test.YtoaihngckcbhiaaGreatDoorPkTrod2
import Derived.Test.YtoaihngckcbhiaaGreatDoorPkOct
namespace Go.Proofs.YtoaihngckcbhiaaGreatDoor
open Go.RowKit Go.Maps
set_option maxRecDepth 100000 in
set_option maxHeartbeats 1000000 in
theorem rsame_any (l m : List (List UInt8)) (a a' : Option Addr) (cap cap' : Nat) (w : World) (hl : TextsAt w a l) (hm : TextsAt w a' m) (h1 : l.length ≤ maxLen) (h2 : m.length ≤ maxLen) :
    Calls Tryz.prog 20 #[.slice a l.length cap, .slice a' m.length cap'] w fun e w' => e = .returned (.bool (decide (l = m))) ∧ Below w.heap.size w w' := by
  unfold maxLen at h1 h2
  by_cases hlen : l.length = m.length
  · have HL := Lib.hid hl; have HM := Lib.hid hm; have HLEN := Lib.hid hlen
    have hbe : ((l.length : Int) == (m.length : Int)) = true := by simp [hlen]
    have hbn : ((l.length : Int) != (m.length : Int)) = false := by simp [hlen]
    clear hl hm hlen
    go_enter Tryz.func20, Tryz.ntmps20
    go_wp2_with fail
    go_loopw [5] (fun i wr => ∃ k : Nat, k ≤ l.length ∧ i = .int .i64 k ∧ l.take k = m.take k ∧ Below w.heap.size w wr) (fun i _ => l.length - (intOf i).toNat)
    case atStart => exact ⟨0, by omega, rfl, rfl, Below.refl _ _⟩
    case round =>
      obtain ⟨k, hk, rfl, ht, hb⟩ := hrel
      have HT := Lib.hid ht; have HB := Lib.hid hb
      clear ht hb
      by_cases hlt : k < l.length
      · have hltm : k < m.length := by rw [← HLEN.out]; exact hlt
        obtain ⟨q, hidx, hq⟩ := (HL.out.below HB.out).index cap k hlt
        obtain ⟨q', hidx', hq'⟩ := (HM.out.below HB.out).index cap' k hltm
        have hts1 : l.take (k + 1) = l.take k ++ [l[k]] := List.take_succ_eq_append_getElem hlt
        have hts2 : m.take (k + 1) = m.take k ++ [m[k]] := List.take_succ_eq_append_getElem hltm
        have hne : l[k] ≠ m[k] → l ≠ m := fun h e => h (by subst e; rfl)
        have HTS := Lib.hid (And.intro hts1 hts2)
        have HNE := Lib.hid hne
        clear hts1 hts2 hne
        generalize l[k] = x at *
        generalize m[k] = y at *
        by_cases hxy : x = y
        · subst hxy
          have HR := Lib.hid (show l.take (k + 1) = m.take (k + 1) by rw [HTS.out.1, HTS.out.2, HT.out])
          go_wp2_with fail
          go_quiet (fail)
          go_wp2_with fail
          go_roundw
          case rel => exact ⟨k + 1, by omega, by go_num, HR.out, HB.out.trans ((below_drawn wr _).mono HB.out.size)⟩
          case measure => simp [intOf]; omega
        · have hb1 : (x == y) = false := by simp [hxy]
          have hb2 : (x != y) = true := by simp [hxy]
          have HR := Lib.hid (show decide (l = m) = false by simpa using HNE.out hxy)
          clear hxy
          go_wp2_with fail
          go_quiet (fail)
          go_wp2_with fail
          go_ret
          rw [HR.out]
          exact ⟨rfl, HB.out.trans ((below_drawn wr _).mono HB.out.size)⟩
      · obtain rfl : k = l.length := by omega
        have HR := Lib.hid (show decide (l = m) = true by
          have h := HT.out
          rw [List.take_of_length_le (Nat.le_refl _), List.take_of_length_le (by rw [HLEN.out]; exact Nat.le_refl _)] at h
          simpa using h)
        go_wp2_with fail
        go_ret
        rw [HR.out]
        exact ⟨rfl, HB.out⟩
  · have hbe : ((l.length : Int) == (m.length : Int)) = false := by simp; omega
    have hbn : ((l.length : Int) != (m.length : Int)) = true := by simp; omega
    have HR := Lib.hid (show decide (l = m) = false by simp; exact fun e => hlen (by rw [e]))
    clear hl hm hlen
    go_enter Tryz.func20, Tryz.ntmps20
    go_wp2_with fail
    go_ret
    rw [HR.out]
    exact ⟨rfl, Below.refl _ _⟩
end Go.Proofs.YtoaihngckcbhiaaGreatDoor
namespace Go.Proofs.YtoaihngckcbhiaaGreatDoor
open Go.RowKit Go.WideShapes Go.ChangeShapes Go.Deep
structure TextsIn (w : World) (v : Value) (l : List (List UInt8)) : Prop where
  at_ : ∃ a cap, v = .slice a l.length cap ∧ TextsAt w a l ∧ (a = none → cap = 0)
  len : l.length ≤ maxLen
  all : ∀ s ∈ l, s.length ≤ reachBytes
theorem TextsIn.below {w w' : World} {v : Value} {l : List (List UInt8)} (h : TextsIn w v l) (hb : Below w.heap.size w w') : TextsIn w' v l := by
  obtain ⟨⟨a, cap, e, h1, h2⟩, h3, h4⟩ := h
  exact ⟨⟨a, cap, e, h1.below hb, h2⟩, h3, h4⟩
set_option maxRecDepth 100000 in
theorem texts_core {H : Type} {enc : TypeId × Value → H} {W : World} {base : Nat} {sp : Nat → Bool} {hd : Bool} {n : Nat} {cs : List Value} {y : DataW H × List MemPlace}
    (h : DataW.trod enc Tryz.prog W base sp hd n 30 cs = some y) (hz : ∀ n ∈ DataW.weights Tryz.prog 30 y.1, n ≤ reachBytes) : ∃ v l, cs = [v] ∧ TextsIn W v l := by
  rcases Go.Deep.open_slice Tryz.underlying30 h with ⟨rfl, _⟩ | ⟨a, len, cap, m, k, D, Pl, rfl, _, hl, hm, hmm, hx, hi⟩
  · exact ⟨_, [], rfl, ⟨none, 0, rfl, fun i hi => by simp at hi, fun _ => rfl⟩, by simp, by simp⟩
  · have hC : Tryz.prog.cellsOf 9 = 1 := by kernel_rfl
    rw [hC] at hi
    have hlm : len ≤ m := by rw [hmm]; split <;> omega
    obtain ⟨l, hll, hP⟩ := list_of (P := fun i (x : List UInt8) => W.cell? (a.add i) = some (.string (bs x)) ∧ x.length ≤ reachBytes) len (fun i hil => by
      obtain ⟨cs', h1, h2⟩ := hi i (by omega)
      obtain ⟨_, hl1, hat⟩ := World.cells?_some h1
      obtain ⟨v, e1, e2, _⟩ := DataW.trod_string Tryz.underlying9 h2
      subst e1
      refine ⟨v.data.toList, ?_, ?_⟩
      · have := hat 0 (by omega)
        rw [add_zero', Nat.mul_one] at this
        rw [this]; rfl
      · refine hz _ ?_
        have hD : D i = .lit (.string v.data.toList) := congrArg Prod.fst e2
        rw [hx]
        simp only [DataW.weights, Tryz.underlying30]
        exact List.mem_cons_of_mem _ (List.mem_append_left _ (weights_all (List.mem_map.2 ⟨i, List.mem_range.2 hil, rfl⟩) (by rw [hD]; simp [DataW.weights]))))
    refine ⟨_, l, rfl, ⟨some a, cap, by rw [hll], fun i hil => ⟨a, rfl, (hP i hil).1⟩, fun e => by cases e⟩, by omega, fun x hxm => ?_⟩
    obtain ⟨i, hil, rfl⟩ := List.getElem_of_mem hxm
    exact (hP i hil).2
end Go.Proofs.YtoaihngckcbhiaaGreatDoor
