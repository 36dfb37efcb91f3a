/- The laws of layer 3, walked: each returns true. -/
import Derived.Test.YthbdflmckfgleaaCrcFns
namespace Go.Proofs.Ythbdflmckfgleaa
open Go.RowKit

theorem crc_e1 : Crc.openT [97, 98, 99] = ([], 6) := by decide +kernel
theorem crc_e2 : Crc.sum [49, 50, 51, 52, 53, 54, 55, 56, 57] = 3421780262 := by decide +kernel
theorem crc_e3 : Crc.sum [] = 0 := by decide +kernel
theorem crc_e4 : Crc.okT (Crc.sealT [97]) = true := by decide +kernel
theorem crc_e5 : Crc.okT [97, 98, 99, 100] = false := by decide +kernel

set_option maxRecDepth 100000 in
set_option maxHeartbeats 400000 in
theorem alive3_any (w : World) : Calls Try.prog 13 #[] w fun e w' => e = .returned (.bool true) ∧ Below w.heap.size w w' := by
  go_enter Try.func13, Try.ntmps13
  go_wp2_with fail
  refine (open_any [97, 98, 99] _ (by decide)).mono ?_
  rw [crc_e1]
  rintro e w1 ⟨rfl, hb1⟩
  go_wp2_with fail
  refine (sum_any [49, 50, 51, 52, 53, 54, 55, 56, 57] _ (by decide)).mono ?_
  rw [crc_e2]
  rintro e w2 ⟨rfl, hb2⟩
  go_wp2_with fail
  refine (sum_any [] _ (by decide)).mono ?_
  rw [crc_e3]
  rintro e w3 ⟨rfl, hb3⟩
  go_wp2_with fail
  refine (seal_any [97] _ (by decide)).mono ?_
  rintro e w4 ⟨rfl, hb4⟩
  go_wp2_with fail
  refine (ok_any (Crc.sealT [97]) _ (by decide +kernel)).mono ?_
  rw [crc_e4]
  rintro e w5 ⟨rfl, hb5⟩
  go_wp2_with fail
  refine (ok_any [97, 98, 99, 100] _ (by decide)).mono ?_
  rw [crc_e5]
  rintro e w6 ⟨rfl, hb6⟩
  go_wp2_with fail
  go_ret
  refine ⟨rfl, ?_⟩
  have h2 := hb1.trans (hb2.mono hb1.size)
  have h3 := h2.trans (hb3.mono h2.size)
  have h4 := h3.trans (hb4.mono h3.size)
  have h5 := h4.trans (hb5.mono h4.size)
  exact h5.trans (hb6.mono h5.size)

set_option maxRecDepth 100000 in
set_option maxHeartbeats 400000 in
theorem crcSums_any (w : World) (s : List UInt8) (hs : s.length ≤ reachBytes) (t : List UInt8) (ht : t.length ≤ reachBytes) :
    Calls Try.prog 3 #[.string (bs s), .string (bs t)] w fun e w' => e = .returned (.bool true) ∧ Below w.heap.size w w' := by
  unfold reachBytes at hs ht
  by_cases h : s.length + t.length ≤ 16384
  · clear hs ht
    go_enter Try.func3, Try.ntmps3
    go_wp2_with fail
    refine (open_any t _ (by omega)).mono ?_
    rintro e w1 ⟨rfl, hb1⟩
    go_wp2_with fail
    refine (ropen_any t _ (by omega)).mono ?_
    rintro e w2 ⟨rfl, hb2⟩
    go_wp2_with fail
    refine (sum_any s _ (by unfold maxLen; omega)).mono ?_
    rintro e w3 ⟨rfl, hb3⟩
    go_wp2_with fail
    refine (rsum_any s _ (by unfold maxLen; omega)).mono ?_
    rintro e w4 ⟨rfl, rfl⟩
    go_wp2_with fail
    refine (seal_any s _ (by omega)).mono ?_
    rintro e w4 ⟨rfl, hb4⟩
    go_wp2_with fail
    refine (rseal_any s _ (by omega)).mono ?_
    rintro e w5 ⟨rfl, hb5⟩
    go_wp2_with fail
    refine (ok_any t _ (by omega)).mono ?_
    rintro e w6 ⟨rfl, hb6⟩
    unfold Crc.okT
    go_wp2_with fail
    refine (alive3_any _).mono ?_
    rintro e w7 ⟨rfl, hb7⟩
    go_wp2_with fail
    go_ret
    exact ⟨rfl, below_next (below_next (below_next (below_next (below_next (below_next hb1 hb2) hb3) hb4) hb5) hb6) hb7⟩
  · go_enter Try.func3, Try.ntmps3
    go_wp2_with fail
    refine (alive3_any _).mono ?_
    rintro e w1 ⟨rfl, hb1⟩
    go_wp2_with fail
    go_ret
    exact ⟨rfl, hb1⟩
end Go.Proofs.Ythbdflmckfgleaa
