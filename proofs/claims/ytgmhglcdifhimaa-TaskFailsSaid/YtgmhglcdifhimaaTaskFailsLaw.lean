/- What becomes of the board of TaskFails, in plain Lean. -/
import Derived.Test.YtgmhglcdifhimaaTaskPlain
namespace Go.Proofs.Ytgmhglcdifhimaa
open Tsk

def fA (n : Nat) : Nat → Board
  | 0 => Board.new [[], []] n
  | i + 1 => (((fA n i).start 0 3).1.fail 3).1
def fB (n : Nat) : Nat → Board
  | 0 => fA n n
  | i + 1 => (((fB n i).start 0 i).1.start 1 i).1
def fC (n k : Nat) : Board := ((fB n k).commit (k - 1 : Int) [118]).1
def fD (n k : Nat) : Nat → Board
  | 0 => fC n k
  | i + 1 => ((fD n k i).fail i).1
def fE (n k : Nat) : Board := ((fD n k (k - 1)).fail 0).1
def fF (n k : Nat) : Nat → Board
  | 0 => fE n k
  | i + 1 => (((fF n k i).start 1 9).1.fail 9).1

def Tsk.Board.at0 (b : Board) (j : Nat) : Nat := match b.l[j]? with | some x => x.fails | none => 99
theorem fA_ok : ∀ n, n < 9 → ∀ i, i < n → ((fA n i).start 0 3).2 = 0 ∧ (((fA n i).start 0 3).1.fail 3).2 = 0 ∧ (fA n (i + 1)).at0 0 = i + 1 ∧ (fA n (i + 1)).l.length = 2 := by decide +kernel
theorem fA_end : ∀ n, n < 9 → (fA n n).failed = none := by decide +kernel
theorem fB_ok : ∀ n, n < 9 → ∀ i, i < 20 → ((fB n i).start 0 i).2 = 0 ∧ (((fB n i).start 0 i).1.start 1 i).2 = 300 := by decide +kernel
theorem fC_ok : ∀ n, n < 9 → ∀ k, k < 21 → 0 < k → ((fB n k).commit (k - 1 : Int) [118]).2 = (true, 0) := by decide +kernel
theorem fD_ok : ∀ n, n < 9 → ∀ k, k < 21 → ∀ i, i < 20 → i + 1 < k → ((fD n k i).fail i).2 = 0 := by decide +kernel
def fEok (n k : Nat) : Bool := match (fD n k (k - 1)).l[0]? with
  | some x => x.is && x.value == [118] && x.fails == n && (fD n k (k - 1)).l.length == 2 && (fD n k (k - 1)).state 0 == 3 && ((fD n k (k - 1)).fail 0).2 == 3 && (fE n k).at0 0 == n && (fE n k).l.length == 2
  | none => false
theorem fE_ok : ∀ n, n < 9 → ∀ k, k < 21 → 0 < k → fEok n k = true := by decide +kernel
theorem fF_ok : ∀ n, n < 9 → ∀ k, k < 21 → 0 < k → ∀ i, i < n + 1 → ((fF n k i).start 1 9).2 = 0 ∧ (((fF n k i).start 1 9).1.fail 9).2 = 0 := by decide +kernel
theorem fG_ok : ∀ n, n < 9 → ∀ k, k < 21 → 0 < k → (fF n k (n + 1)).failed = some 1 ∧ ((fF n k (n + 1)).start 1 9).2 = 301 ∧ ((fF n k (n + 1)).start 1 9).1.done = false := by decide +kernel
end Go.Proofs.Ytgmhglcdifhimaa
