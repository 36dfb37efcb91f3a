/- maslinlaw04.alive, walked: the chapter's example. -/
import Derived.Test.YthbdflmckfgleaaDiskMy
namespace Go.Proofs.Ythbdflmckfgleaa
open Go.RowKit Go.Maps

def av0 : Dsk := Dsk.new 4
def av1 : Dsk := (av0.write 0 (fill [97] (64 * 2))).1
def av2 : Dsk := av1.flush.1
def av3 : Dsk := (av2.write 1 (fill [98] (64 * 2))).1
def av4 : Dsk := av3.crash [48, 49]
def av5 : Dsk := av4.fuse 1
def av6 : Dsk := (av5.write 0 (fill [99] (64 * 2))).1
def av7 : Dsk := av6.crash [49]
theorem av_e1 : (av0.write 0 (fill [97] (64 * 2))).2 = 0 := by decide +kernel
theorem av_e2 : av1.flush.2 = 0 := by decide +kernel
theorem av_e3 : (av2.write 1 (fill [98] (64 * 2))).2 = 0 := by decide +kernel
theorem av_e4 : av3.loose.length = 2 := by decide +kernel
theorem av_e5 : av4.read 0 4 = (fill [97] (64 * 2) ++ fill [98] (64 * 1) ++ fill [0] (64 * 1), 0) := by decide +kernel
theorem av_e6 : (av5.write 0 (fill [99] (64 * 2))).2 = 40 := by decide +kernel
theorem av_e7 : av6.read 0 1 = ([], 40) := by decide +kernel
theorem av_e8 : av6.down = true := by decide +kernel
theorem av_e9 : av7.read 0 2 = (fill [99] (64 * 1) ++ fill [97] (64 * 1), 0) := by decide +kernel
theorem av_e10 : (av7.write 0 [97]).2 = 2 := by decide +kernel
theorem av_l0 : av0.loose.length ≤ 100000000 := by decide +kernel
theorem av_l1 : av1.loose.length ≤ 100000000 := by decide +kernel
theorem av_l2 : av2.loose.length ≤ 100000000 := by decide +kernel
theorem av_l3 : av3.loose.length ≤ 100000000 := by decide +kernel
theorem av_l5 : av5.loose.length ≤ 100000000 := by decide +kernel
theorem av_l6 : av6.loose.length ≤ 100000000 := by decide +kernel
theorem av_l7 : av7.loose.length ≤ 100000000 := by decide +kernel
theorem i64_small (n : Nat) (h : n ≤ 1000) : -9223372036854775808 ≤ (n : Int) ∧ (n : Int) ≤ 9223372036854775807 := by omega

set_option maxRecDepth 100000 in
set_option maxHeartbeats 2000000 in
theorem alive4_any (w : World) : Calls Try.prog 23 #[] w fun e w' => e = .returned (.bool true) ∧ Below w.heap.size w w' := by
  go_enter Try.func23, Try.ntmps23
  go_wp2_with fail
  refine (new_my (Below.refl w.heap.size w) (Nat.le_refl _) 4 (by omega) (by omega)).mono ?_
  rintro e w1 ⟨b, fp, rfl, h0⟩
  have h0 : MyDisk w.heap.size w w1 b av0 fp := h0
  go_wp2_with fail
  refine (fill_any [97] 2 _ (by decide) (by omega) (by omega)).mono ?_
  rintro e w2 ⟨rfl, hb⟩
  have h0' := h0.step hb
  clear h0 hb
  go_wp2_with fail
  refine (write_my h0' 0 (fill [97] (64 * 2)) (by omega) (by rw [fill_length]; omega) av_l0).mono ?_
  rw [av_e1]
  rintro e w3 ⟨rfl, fp1, h1⟩
  have h1 : MyDisk w.heap.size w w3 b av1 fp1 := h1
  clear h0'
  go_wp2_with fail
  refine (flush_my h1 av_l1).mono ?_
  rw [av_e2]
  rintro e w4 ⟨rfl, fp2, h2⟩
  have h2 : MyDisk w.heap.size w w4 b av2 fp2 := h2
  clear h1
  go_wp2_with fail
  refine (fill_any [98] 2 _ (by decide) (by omega) (by omega)).mono ?_
  rintro e w5 ⟨rfl, hb⟩
  have h2' := h2.step hb
  clear h2 hb
  go_wp2_with fail
  refine (write_my h2' 1 (fill [98] (64 * 2)) (by omega) (by rw [fill_length]; omega) av_l2).mono ?_
  rw [av_e3]
  rintro e w6 ⟨rfl, fp3, h3⟩
  have h3 : MyDisk w.heap.size w w6 b av3 fp3 := h3
  clear h2'
  go_wp2_with fail
  refine (loose_my h3).mono ?_
  rw [av_e4]
  rintro e w7 ⟨rfl, rfl⟩
  go_wp2_with fail
  refine (crash_my h3 [48, 49] av_l3 (by decide)).mono ?_
  rintro e w7 ⟨rfl, fp4, h4⟩
  have h4 : MyDisk w.heap.size w w7 b av4 fp4 := h4
  clear h3
  go_wp2_with fail
  refine (read_my h4 0 4 (by omega) (by omega)).mono ?_
  rw [av_e5]
  rintro e w8 ⟨rfl, hb⟩
  have h4' := h4.step hb
  clear h4 hb
  go_wp2_with fail
  refine (fuse_my h4' 1 (by omega)).mono ?_
  rintro e w9 ⟨rfl, h5⟩
  have h5 : MyDisk w.heap.size w w9 b av5 fp4 := h5
  clear h4'
  go_wp2_with fail
  refine (fill_any [99] 2 _ (by decide) (by omega) (by omega)).mono ?_
  rintro e w10 ⟨rfl, hb⟩
  have h5' := h5.step hb
  clear h5 hb
  go_wp2_with fail
  refine (write_my h5' 0 (fill [99] (64 * 2)) (by omega) (by rw [fill_length]; omega) av_l5).mono ?_
  rw [av_e6]
  rintro e w11 ⟨rfl, fp6, h6⟩
  have h6 : MyDisk w.heap.size w w11 b av6 fp6 := h6
  clear h5'
  go_wp2_with fail
  refine (read_my h6 0 1 (by omega) (by omega)).mono ?_
  rw [av_e7]
  rintro e w12 ⟨rfl, hb⟩
  have h6' := h6.step hb
  clear h6 hb
  go_wp2_with fail
  refine (down_my h6').mono ?_
  rw [av_e8]
  rintro e w13 ⟨rfl, rfl⟩
  go_wp2_with fail
  refine (crash_my h6' [49] av_l6 (by decide)).mono ?_
  rintro e w14 ⟨rfl, fp7, h7⟩
  have h7 : MyDisk w.heap.size w w14 b av7 fp7 := h7
  clear h6'
  go_wp2_with fail
  refine (read_my h7 0 2 (by omega) (by omega)).mono ?_
  rw [av_e9]
  rintro e w15 ⟨rfl, hb⟩
  have h7' := h7.step hb
  clear h7 hb
  go_wp2_with fail
  refine (fill_any [97] 2 _ (by decide) (by omega) (by omega)).mono ?_
  rintro e w16 ⟨rfl, hb⟩
  have h8 := h7'.step hb
  clear h7' hb
  go_wp2_with fail
  refine (fill_any [98] 1 _ (by decide) (by omega) (by omega)).mono ?_
  rintro e w17 ⟨rfl, hb⟩
  have h9 := h8.step hb
  clear h8 hb
  go_wp2_with fail
  refine (fill_any [0] 1 _ (by decide) (by omega) (by omega)).mono ?_
  rintro e w18 ⟨rfl, hb⟩
  have h10 := h9.step hb
  clear h9 hb
  go_wp2_with fail
  refine (fill_any [99] 1 _ (by decide) (by omega) (by omega)).mono ?_
  rintro e w19 ⟨rfl, hb⟩
  have h11 := h10.step hb
  clear h10 hb
  go_wp2_with fail
  refine (fill_any [97] 1 _ (by decide) (by omega) (by omega)).mono ?_
  rintro e w20 ⟨rfl, hb⟩
  have h12 := h11.step hb
  clear h11 hb
  go_wp2_with fail
  refine (write_my h12 0 [97] (by omega) (by decide) av_l7).mono ?_
  rw [av_e10]
  rintro e w21 ⟨rfl, fp8, h13⟩
  clear h12
  go_wp2_with fail
  go_ret
  exact ⟨rfl, h13.below⟩
end Go.Proofs.Ythbdflmckfgleaa
