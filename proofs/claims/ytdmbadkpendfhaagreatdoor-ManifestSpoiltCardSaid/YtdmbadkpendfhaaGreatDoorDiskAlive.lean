/- maslinlaw04.alive, walked: the chapter's example. -/
import Derived.Test.YtdmbadkpendfhaaGreatDoorDiskCopy2
namespace Go.Proofs.YtdmbadkpendfhaaGreatDoor
open Go.RowKit Go.Maps

def av0 : Dsk := Dsk.new 4
def av1 : Dsk := (av0.write 0 (fill [97] (64 * 2))).1
def av2 : Dsk := av1.flush.1
def av3 : Dsk := (av2.write 1 (fill [98] (64 * 2))).1
def av4 : Dsk := av3.crash [48, 49]
def av5 : Dsk := av4.fuse 1
def av6 : Dsk := (av5.write 0 (fill [99] (64 * 2))).1
def av7 : Dsk := av6.crash [49]
theorem av_e1 : (av0.write 0 (fill [97] (64 * 2))).2 = 0 := by decide +kernel
theorem av_e2 : av1.flush.2 = 0 := by decide +kernel
theorem av_e3 : (av2.write 1 (fill [98] (64 * 2))).2 = 0 := by decide +kernel
theorem av_e4 : av3.loose.length = 2 := by decide +kernel
theorem av_e5 : av4.read 0 4 = (fill [97] (64 * 2) ++ fill [98] (64 * 1) ++ fill [0] (64 * 1), 0) := by decide +kernel
theorem av_e6 : (av5.write 0 (fill [99] (64 * 2))).2 = 40 := by decide +kernel
theorem av_e7 : av6.read 0 1 = ([], 40) := by decide +kernel
theorem av_e8 : av6.down = true := by decide +kernel
theorem av_e9 : av7.read 0 2 = (fill [99] (64 * 1) ++ fill [97] (64 * 1), 0) := by decide +kernel
theorem av_e10 : (av7.write 0 [97]).2 = 2 := by decide +kernel
theorem av_l0 : av0.loose.length ≤ 100000000 := by decide +kernel
theorem av_l1 : av1.loose.length ≤ 100000000 := by decide +kernel
theorem av_l2 : av2.loose.length ≤ 100000000 := by decide +kernel
theorem av_l3 : av3.loose.length ≤ 100000000 := by decide +kernel
theorem av_l5 : av5.loose.length ≤ 100000000 := by decide +kernel
theorem av_l6 : av6.loose.length ≤ 100000000 := by decide +kernel
theorem av_l7 : av7.loose.length ≤ 100000000 := by decide +kernel
theorem i64_small (n : Nat) (h : n ≤ 1000) : -9223372036854775808 ≤ (n : Int) ∧ (n : Int) ≤ 9223372036854775807 := by omega

end Go.Proofs.YtdmbadkpendfhaaGreatDoor
