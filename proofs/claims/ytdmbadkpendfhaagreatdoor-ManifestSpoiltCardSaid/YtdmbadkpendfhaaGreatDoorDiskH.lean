/- maslinlaw04.Heavy and text, walked. maslinlaw04.text, walked. -/
import Derived.Test.YtdmbadkpendfhaaGreatDoorTrod2
import Derived.Test.YtdmbadkpendfhaaGreatDoorDiskFill
namespace Go.Proofs.YtdmbadkpendfhaaGreatDoor
open Go.RowKit Go.Maps

/-- What a step costs. -/
def Stp.cost (x : Stp) : Int := (x.s.length : Int) + (if x.what = 0 then 64 * (if x.n < 0 then 0 else x.n) else 0)
def costs (l : List Stp) : Int := (l.map Stp.cost).sum
theorem costs_snoc (l : List Stp) (k : Nat) (h : k < l.length) : costs (l.take (k + 1)) = costs (l.take k) + l[k].cost := by
  unfold costs
  rw [List.take_succ_eq_append_getElem h, List.map_append, List.sum_append]
  simp
/-- A script that a statement plays. -/
structure Light (l : List Stp) : Prop where
  len : l.length ≤ 80
  cost : costs l ≤ 32768
  n : ∀ x ∈ l, x.what = 0 → x.n ≤ 100

theorem cost_range {x : Stp} (hx : x.okay) (hn : x.what = 0 → x.n ≤ 100) : 0 ≤ x.cost ∧ x.cost ≤ 140737488361728 := by
  obtain ⟨_, _, _, h⟩ := hx
  unfold reachBytes at h
  unfold Stp.cost
  split
  · rename_i h0
    have := hn h0
    split <;> omega
  · omega
theorem costs_range (l : List Stp) (h : ∀ x ∈ l, x.okay ∧ (x.what = 0 → x.n ≤ 100)) : 0 ≤ costs l ∧ costs l ≤ l.length * 140737488361728 := by
  induction l with
  | nil => simp [costs]
  | cons x l ih =>
    have h1 := ih (fun y hy => h y (List.mem_cons_of_mem _ hy))
    have h2 := cost_range (h x List.mem_cons_self).1 (h x List.mem_cons_self).2
    have e : costs (x :: l) = x.cost + costs l := by simp [costs]
    rw [e, List.length_cons]
    omega

/-- What Heavy answers. -/
def HeavyPost (N : Int) (l : List Stp) (w : World) (e : Ending) (w' : World) : Prop := ∃ h, e = .returned (.bool h) ∧ w = w' ∧ (h = false → Light l ∧ (200 < N → 16384 < N))

end Go.Proofs.YtdmbadkpendfhaaGreatDoor

namespace Go.Proofs.YtdmbadkpendfhaaGreatDoor
open Go.RowKit Go.Maps

/-- What a step writes. -/
def Stp.text (x : Stp) : List UInt8 := if x.raw then x.s else fill x.s (64 * x.n.toNat)
/-- A step, as a value. -/
def Stp.val (x : Stp) : Value := .agg #[.int .i64 x.what, .int .i64 x.place, .int .i64 x.n, .string (bs x.s), .bool x.raw]

end Go.Proofs.YtdmbadkpendfhaaGreatDoor
