/- maslinlaw30.Heavy, Copied, walked. -/
import Derived.Test.YtgmhglcdifhimaaDoorTaskMine
namespace Go.Proofs.YtgmhglcdifhimaaDoor
open Go.RowKit Go.Maps Go.Sort
open Tsk

/-- What a statement plays. -/
structure LightT (L : List (List Int)) (n : Nat) : Prop where
  len : L.length ≤ 30
  rows : ∀ l ∈ L, l.length ≤ 200
  steps : n ≤ 100
def lens (L : List (List Int)) : Nat := (L.map List.length).sum
theorem lens_take (L : List (List Int)) (k : Nat) (h : k < L.length) : lens (L.take (k + 1)) = lens (L.take k) + L[k].length := by
  unfold lens
  rw [List.take_succ_eq_append_getElem h, List.map_append, List.sum_append]
  simp
theorem lens_ge (L : List (List Int)) : ∀ l ∈ L, l.length ≤ lens L := by
  intro l hl
  unfold lens
  induction L with
  | nil => cases hl
  | cons x L ih =>
    rw [List.map_cons, List.sum_cons]
    rcases List.mem_cons.1 hl with rfl | h
    · omega
    · have := ih h; omega
def HeavyT (L : List (List Int)) (n : Nat) (w : World) (e : Ending) (w' : World) : Prop := ∃ h : Bool, e = .returned (.bool h) ∧ w = w' ∧ (h = false → LightT L n)
theorem HeavyT.mk {L : List (List Int)} {n : Nat} {w : World} (h : Bool) (hl : h = false → LightT L n) : HeavyT L n w (.returned (.bool h)) w := ⟨h, rfl, rfl, hl⟩
set_option maxRecDepth 100000 in
set_option maxHeartbeats 1000000 in
theorem heavy30_any (a c : Option Addr) (cap cap' n : Nat) (L : List (List Int)) (w : World) (hL : NeedsAt w a L) (hlen : L.length ≤ maxLen) (hn : n ≤ maxLen) :
    Calls Tryd.prog 7 #[.slice a L.length cap, .slice c n cap'] w (HeavyT L n w) := by
  unfold maxLen at hlen hn
  have HL := Lib.hid hL
  clear hL
  go_enter Tryd.func7, Tryd.ntmps7
  go_wp2_with fail
  go_loop [5, 6] (fun s i => ∃ k : Nat, k ≤ L.length ∧ k ≤ 100 ∧ i = .int .i64 k ∧ s = .int .i64 (lens (L.take k) : Int) ∧ lens (L.take k) ≤ 140737488355328 * k) (fun _ i => L.length - (intOf i).toNat)
  case atStart => exact ⟨0, Nat.zero_le _, Nat.zero_le _, rfl, rfl, Nat.le_refl _⟩
  case round =>
    obtain ⟨k, hk, hk1, rfl, rfl, hs⟩ := hrel
    by_cases hlt : k < L.length
    · by_cases h1 : k < 100
      · obtain ⟨q, hix, v, hc, ⟨na, ncap, rfl, _, _⟩, hl2, _⟩ := HL.out.index cap k hlt
        have HT := Lib.hid (lens_take L k hlt)
        generalize lens (L.take k) = S at *
        generalize L[k].length = m at *
        have h2 : S + m ≤ 140737488355328 * 200 := by omega
        have h3 : S + m ≤ 140737488355328 * (k + 1) := by omega
        have H3 := Lib.hid h3
        clear h3
        go_wp2_with fail
        go_round
        case rel => exact ⟨k + 1, by omega, by omega, by go_num, by rw [HT.out]; go_num, by rw [HT.out]; exact H3.out⟩
        case measure => simp [intOf]; omega
      · have hgt : 30 < L.length := by omega
        have h1' : ¬ ((k : Int) < 100) := by omega
        generalize lens (L.take k) = S at *
        go_wp2_with fail
        go_ret
        exact HeavyT.mk true (fun h => Bool.noConfusion h)
    · obtain rfl : k = L.length := by omega
      rw [List.take_length] at hs ⊢
      have HS := Lib.hid (lens_ge L)
      generalize lens L = S at *
      by_cases g1 : 30 < L.length
      · go_wp2_with fail
        go_ret
        exact HeavyT.mk true (fun h => Bool.noConfusion h)
      · by_cases g2 : 200 < S
        · go_wp2_with fail
          go_ret
          exact HeavyT.mk true (fun h => Bool.noConfusion h)
        · by_cases g3 : 100 < n
          · have G1 : decide (30 < (L.length : Int)) = false := by simp; omega
            have G2 : decide (200 < (S : Int)) = false := by simp; omega
            have G3 : decide (100 < (n : Int)) = true := by simp; omega
            go_wp2_with fail
            go_ret
            exact HeavyT.mk true (fun h => Bool.noConfusion h)
          · have HLT := Lib.hid (show LightT L n from ⟨by omega, fun l hl => by have := HS.out l hl; omega, by omega⟩)
            have G1 : decide (30 < (L.length : Int)) = false := by simp; omega
            have G2 : decide (200 < (S : Int)) = false := by simp; omega
            have G3 : decide (100 < (n : Int)) = false := by simp; omega
            go_wp2_with fail
            go_ret
            exact HeavyT.mk false (fun _ => HLT.out)
end Go.Proofs.YtgmhglcdifhimaaDoor
