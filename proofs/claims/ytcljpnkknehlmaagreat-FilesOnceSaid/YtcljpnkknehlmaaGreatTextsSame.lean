/- maslinref01.Same: two rows of texts, walked. -/
import Derived.Test.YtcljpnkknehlmaaGreatWalT
namespace Go.Proofs.YtcljpnkknehlmaaGreat
open Go.RowKit Go.Maps

set_option maxRecDepth 100000 in
set_option maxHeartbeats 1000000 in
theorem rsame_any (l m : List (List UInt8)) (a a' : Option Addr) (cap cap' : Nat) (w : World) (hl : TextsAt w a l) (hm : TextsAt w a' m) (h1 : l.length ≤ maxLen) (h2 : m.length ≤ maxLen) :
    Calls Tryz.prog 11 #[.slice a l.length cap, .slice a' m.length cap'] w fun e w' => e = .returned (.bool (decide (l = m))) ∧ Below w.heap.size w w' := by
  unfold maxLen at h1 h2
  by_cases hlen : l.length = m.length
  · have HL := Lib.hid hl; have HM := Lib.hid hm; have HLEN := Lib.hid hlen
    have hbe : ((l.length : Int) == (m.length : Int)) = true := by simp [hlen]
    have hbn : ((l.length : Int) != (m.length : Int)) = false := by simp [hlen]
    clear hl hm hlen
    go_enter Tryz.func11, Tryz.ntmps11
    go_wp2_with fail
    go_loopw [5] (fun i wr => ∃ k : Nat, k ≤ l.length ∧ i = .int .i64 k ∧ l.take k = m.take k ∧ Below w.heap.size w wr) (fun i _ => l.length - (intOf i).toNat)
    case atStart => exact ⟨0, by omega, rfl, rfl, Below.refl _ _⟩
    case round =>
      obtain ⟨k, hk, rfl, ht, hb⟩ := hrel
      have HT := Lib.hid ht; have HB := Lib.hid hb
      clear ht hb
      by_cases hlt : k < l.length
      · have hltm : k < m.length := by rw [← HLEN.out]; exact hlt
        obtain ⟨q, hidx, hq⟩ := (HL.out.below HB.out).index cap k hlt
        obtain ⟨q', hidx', hq'⟩ := (HM.out.below HB.out).index cap' k hltm
        have hts1 : l.take (k + 1) = l.take k ++ [l[k]] := List.take_succ_eq_append_getElem hlt
        have hts2 : m.take (k + 1) = m.take k ++ [m[k]] := List.take_succ_eq_append_getElem hltm
        have hne : l[k] ≠ m[k] → l ≠ m := fun h e => h (by subst e; rfl)
        have HTS := Lib.hid (And.intro hts1 hts2)
        have HNE := Lib.hid hne
        clear hts1 hts2 hne
        generalize l[k] = x at *
        generalize m[k] = y at *
        by_cases hxy : x = y
        · subst hxy
          have HR := Lib.hid (show l.take (k + 1) = m.take (k + 1) by rw [HTS.out.1, HTS.out.2, HT.out])
          go_wp2_with fail
          go_quiet (fail)
          go_wp2_with fail
          go_roundw
          case rel => exact ⟨k + 1, by omega, by go_num, HR.out, HB.out.trans ((below_drawn wr _).mono HB.out.size)⟩
          case measure => simp [intOf]; omega
        · have hb1 : (x == y) = false := by simp [hxy]
          have hb2 : (x != y) = true := by simp [hxy]
          have HR := Lib.hid (show decide (l = m) = false by simpa using HNE.out hxy)
          clear hxy
          go_wp2_with fail
          go_quiet (fail)
          go_wp2_with fail
          go_ret
          rw [HR.out]
          exact ⟨rfl, HB.out.trans ((below_drawn wr _).mono HB.out.size)⟩
      · obtain rfl : k = l.length := by omega
        have HR := Lib.hid (show decide (l = m) = true by
          have h := HT.out
          rw [List.take_of_length_le (Nat.le_refl _), List.take_of_length_le (by rw [HLEN.out]; exact Nat.le_refl _)] at h
          simpa using h)
        go_wp2_with fail
        go_ret
        rw [HR.out]
        exact ⟨rfl, HB.out⟩
  · have hbe : ((l.length : Int) == (m.length : Int)) = false := by simp; omega
    have hbn : ((l.length : Int) != (m.length : Int)) = true := by simp; omega
    have HR := Lib.hid (show decide (l = m) = false by simp; exact fun e => hlen (by rw [e]))
    clear hl hm hlen
    go_enter Tryz.func11, Tryz.ntmps11
    go_wp2_with fail
    go_ret
    rw [HR.out]
    exact ⟨rfl, Below.refl _ _⟩
end Go.Proofs.YtcljpnkknehlmaaGreat
