/-
  No cell of these rows narrows 'for every input' (looked for: loops, veiled, ifaces, maps, wideKeys, modest, calm, conditions, laid).
  DERIVED. THE GIVEN ROWS OF THIS SEAT. 5 by the template 'for every input the law returns true; each argument reads behind the call as it read before'; 0 by the template 'total and deterministic' (their statements: YtgmhglcdifhimaaTotals.lean).
  GIVEN WITH THE SEED: the statements are not yours to turn. If you find one false, say at which input.
  Laid BY PROGRAM, IN A SANDBOX (cutbox-rows.mjs): the forced cells as the released guide's own fill.sh prints them over the translation 0bdc18299bb32f96… (all of the seat's roots in one cut). By AI agents, Wed Nov 11 2026. No macro, syntax, notation, axiom, sorry.
-/
import Derived.Test.YtgmhglcdifhimaaChecked
import GoSem.Claim
import GoSem.ClaimJoined
import GoSem.ClaimMapViews
import Derived.JoinedTies
import Derived.KernelRfl
namespace Go.Proofs.Ytgmhglcdifhimaa
/- THE CELL 'sum', in the pinned program and in every row, IS THE sha256 OF THE DUMP (.gsa) THAT YtgmhglcdifhimaaProg.lean LOADS. Nothing in Lean hashes anything: it is a label: what it is worth is what the hold of that sum in a sandbox is worth. -/
noncomputable def Try.pinned : Pinned := { name := "ytgmhglcdifhimaa", sum := "0bdc18299bb32f969cb1f74d0584557821b1b8e53f43f871476b653642d0eed1", checked := Try.checked }
namespace Rows
def none {H : Type} : Left H := { results := [], args := [] }

/-- 'maslinlaw30.TaskGoes': WHATEVER THE INPUT: true; the input reads as it did. -/
def taskGoesSpec : ChangeSpec := { name := "taskGoes", fn := fun _ => fun
  | [d1, d2, d3] => { results := [.lit (.bool true)], args := [d1, d2, d3] }
  | _ => none }
def taskGoesRow : OpenClaim := { program := "ytgmhglcdifhimaa", sum := "0bdc18299bb32f969cb1f74d0584557821b1b8e53f43f871476b653642d0eed1", func := "maslin/maslinlaw30.TaskGoes", spec := "taskGoes", unfollowed := true, recurses := true, apart := false }
def TaskGoesSaid : Prop := taskGoesRow.holds Try.pinned (OpenSpec.ofChange taskGoesSpec)

/-- ITS FALSE NEIGHBOUR: 'it returns false'. Refute it at one input. -/
def taskGoesWrong : ChangeSpec := { name := "taskGoes", fn := fun _ => fun
  | [d1, d2, d3] => { results := [.lit (.bool false)], args := [d1, d2, d3] }
  | _ => none }
def TaskGoesWrongFalsely : Prop := taskGoesRow.holds Try.pinned (OpenSpec.ofChange taskGoesWrong)

/-- 'maslinlaw30.TaskNeeds': WHATEVER THE INPUT: true; the input reads as it did. -/
def taskNeedsSpec : ChangeSpec := { name := "taskNeeds", fn := fun _ => fun
  | [d1, d2, d3] => { results := [.lit (.bool true)], args := [d1, d2, d3] }
  | _ => none }
def taskNeedsRow : OpenClaim := { program := "ytgmhglcdifhimaa", sum := "0bdc18299bb32f969cb1f74d0584557821b1b8e53f43f871476b653642d0eed1", func := "maslin/maslinlaw30.TaskNeeds", spec := "taskNeeds", unfollowed := true, recurses := true, apart := false }
def TaskNeedsSaid : Prop := taskNeedsRow.holds Try.pinned (OpenSpec.ofChange taskNeedsSpec)

/-- ITS FALSE NEIGHBOUR: 'it returns false'. Refute it at one input. -/
def taskNeedsWrong : ChangeSpec := { name := "taskNeeds", fn := fun _ => fun
  | [d1, d2, d3] => { results := [.lit (.bool false)], args := [d1, d2, d3] }
  | _ => none }
def TaskNeedsWrongFalsely : Prop := taskNeedsRow.holds Try.pinned (OpenSpec.ofChange taskNeedsWrong)

/-- 'maslinlaw30.TaskPlays': WHATEVER THE INPUT: true; the input reads as it did. -/
def taskPlaysSpec : ChangeSpec := { name := "taskPlays", fn := fun _ => fun
  | [d1, d2, d3, d4] => { results := [.lit (.bool true)], args := [d1, d2, d3, d4] }
  | _ => none }
def taskPlaysRow : OpenClaim := { program := "ytgmhglcdifhimaa", sum := "0bdc18299bb32f969cb1f74d0584557821b1b8e53f43f871476b653642d0eed1", func := "maslin/maslinlaw30.TaskPlays", spec := "taskPlays", unfollowed := true, recurses := true, apart := false }
def TaskPlaysSaid : Prop := taskPlaysRow.holds Try.pinned (OpenSpec.ofChange taskPlaysSpec)

/-- ITS FALSE NEIGHBOUR: 'it returns false'. Refute it at one input. -/
def taskPlaysWrong : ChangeSpec := { name := "taskPlays", fn := fun _ => fun
  | [d1, d2, d3, d4] => { results := [.lit (.bool false)], args := [d1, d2, d3, d4] }
  | _ => none }
def TaskPlaysWrongFalsely : Prop := taskPlaysRow.holds Try.pinned (OpenSpec.ofChange taskPlaysWrong)

/-- 'maslinlaw30.TaskFails': WHATEVER THE INPUT: true; the input reads as it did. -/
def taskFailsSpec : ChangeSpec := { name := "taskFails", fn := fun _ => fun
  | [d1, d2] => { results := [.lit (.bool true)], args := [d1, d2] }
  | _ => none }
def taskFailsRow : OpenClaim := { program := "ytgmhglcdifhimaa", sum := "0bdc18299bb32f969cb1f74d0584557821b1b8e53f43f871476b653642d0eed1", func := "maslin/maslinlaw30.TaskFails", spec := "taskFails", unfollowed := true, recurses := true, apart := false }
def TaskFailsSaid : Prop := taskFailsRow.holds Try.pinned (OpenSpec.ofChange taskFailsSpec)

/-- ITS FALSE NEIGHBOUR: 'it returns false'. Refute it at one input. -/
def taskFailsWrong : ChangeSpec := { name := "taskFails", fn := fun _ => fun
  | [d1, d2] => { results := [.lit (.bool false)], args := [d1, d2] }
  | _ => none }
def TaskFailsWrongFalsely : Prop := taskFailsRow.holds Try.pinned (OpenSpec.ofChange taskFailsWrong)

/-- 'maslinlaw30.TaskNil': WHATEVER THE INPUT: true; the input reads as it did. -/
def taskNilSpec : ChangeSpec := { name := "taskNil", fn := fun _ => fun
  | [d1, d2, d3] => { results := [.lit (.bool true)], args := [d1, d2, d3] }
  | _ => none }
def taskNilRow : OpenClaim := { program := "ytgmhglcdifhimaa", sum := "0bdc18299bb32f969cb1f74d0584557821b1b8e53f43f871476b653642d0eed1", func := "maslin/maslinlaw30.TaskNil", spec := "taskNil", unfollowed := true, recurses := true, apart := false }
def TaskNilSaid : Prop := taskNilRow.holds Try.pinned (OpenSpec.ofChange taskNilSpec)

/-- ITS FALSE NEIGHBOUR: 'it returns false'. Refute it at one input. -/
def taskNilWrong : ChangeSpec := { name := "taskNil", fn := fun _ => fun
  | [d1, d2, d3] => { results := [.lit (.bool false)], args := [d1, d2, d3] }
  | _ => none }
def TaskNilWrongFalsely : Prop := taskNilRow.holds Try.pinned (OpenSpec.ofChange taskNilWrong)

/- THE SECOND FORM. 'bulk': how many values and letters a reading holds, each counted each time it is reached (what is shared counts as often as it is met; a slice's spare places count too). A statement '..UptoSaid' is the law's where the arguments, and the package variables that the reading takes, are together of bulk at most 1048576: NARROWER than '..Said'. Prove '..Said' where nothing that the law and all that it calls make is longer than what came in: it says more and counts as full. Else prove '..UptoSaid'. A law counts once. -/
mutual
def uptoBulk {H : Type} : DataW H → Nat
  | .lit (.string bytes) => bytes.length + 1
  | .lit _ => 1
  | .nil => 1
  | .ptr d => uptoBulk d + 1
  | .slice elems spare => uptoBulkAll elems + uptoBulkAll spare + 1
  | .agg parts => uptoBulkAll parts + 1
  | .iface _ d => uptoBulk d + 1
  | .map entries => uptoBulkEntries entries + 1
  | .held _ => 1
def uptoBulkAll {H : Type} : List (DataW H) → Nat
  | [] => 0
  | d :: r => uptoBulk d + uptoBulkAll r
def uptoBulkEntries {H : Type} : List (Lit × DataW H) → Nat
  | [] => 0
  | x :: r => uptoBulkEntry x + uptoBulkEntries r
def uptoBulkEntry {H : Type} : Lit × DataW H → Nat
  | (.string bytes, d) => bytes.length + uptoBulk d + 1
  | (_, d) => uptoBulk d + 1
 end
def uptoSmall : (H : Type) → List (DataW H) → Bool := fun _ ds => decide (uptoBulkAll ds ≤ 1048576)
def OpenSpec.upto (s : _root_.Go.ChangeSpec) : _root_.Go.OpenSpec := { _root_.Go.OpenSpec.ofChange s with cond := some uptoSmall }

/-- 'maslinlaw30.TaskGoes', WHERE WHAT IT READS IS OF BULK AT MOST 1048576: true; the input reads as it did. -/
def taskGoesUptoRow : OpenClaim := { program := "ytgmhglcdifhimaa", sum := "0bdc18299bb32f969cb1f74d0584557821b1b8e53f43f871476b653642d0eed1", func := "maslin/maslinlaw30.TaskGoes", spec := "taskGoes", unfollowed := true, recurses := true, apart := false, narrowed := true }
def TaskGoesUptoSaid : Prop := taskGoesUptoRow.holds Try.pinned (OpenSpec.upto taskGoesSpec)

/-- 'maslinlaw30.TaskNeeds', WHERE WHAT IT READS IS OF BULK AT MOST 1048576: true; the input reads as it did. -/
def taskNeedsUptoRow : OpenClaim := { program := "ytgmhglcdifhimaa", sum := "0bdc18299bb32f969cb1f74d0584557821b1b8e53f43f871476b653642d0eed1", func := "maslin/maslinlaw30.TaskNeeds", spec := "taskNeeds", unfollowed := true, recurses := true, apart := false, narrowed := true }
def TaskNeedsUptoSaid : Prop := taskNeedsUptoRow.holds Try.pinned (OpenSpec.upto taskNeedsSpec)

/-- 'maslinlaw30.TaskPlays', WHERE WHAT IT READS IS OF BULK AT MOST 1048576: true; the input reads as it did. -/
def taskPlaysUptoRow : OpenClaim := { program := "ytgmhglcdifhimaa", sum := "0bdc18299bb32f969cb1f74d0584557821b1b8e53f43f871476b653642d0eed1", func := "maslin/maslinlaw30.TaskPlays", spec := "taskPlays", unfollowed := true, recurses := true, apart := false, narrowed := true }
def TaskPlaysUptoSaid : Prop := taskPlaysUptoRow.holds Try.pinned (OpenSpec.upto taskPlaysSpec)

/-- 'maslinlaw30.TaskFails', WHERE WHAT IT READS IS OF BULK AT MOST 1048576: true; the input reads as it did. -/
def taskFailsUptoRow : OpenClaim := { program := "ytgmhglcdifhimaa", sum := "0bdc18299bb32f969cb1f74d0584557821b1b8e53f43f871476b653642d0eed1", func := "maslin/maslinlaw30.TaskFails", spec := "taskFails", unfollowed := true, recurses := true, apart := false, narrowed := true }
def TaskFailsUptoSaid : Prop := taskFailsUptoRow.holds Try.pinned (OpenSpec.upto taskFailsSpec)

/-- 'maslinlaw30.TaskNil', WHERE WHAT IT READS IS OF BULK AT MOST 1048576: true; the input reads as it did. -/
def taskNilUptoRow : OpenClaim := { program := "ytgmhglcdifhimaa", sum := "0bdc18299bb32f969cb1f74d0584557821b1b8e53f43f871476b653642d0eed1", func := "maslin/maslinlaw30.TaskNil", spec := "taskNil", unfollowed := true, recurses := true, apart := false, narrowed := true }
def TaskNilUptoSaid : Prop := taskNilUptoRow.holds Try.pinned (OpenSpec.upto taskNilSpec)

end Rows
end Go.Proofs.Ytgmhglcdifhimaa
