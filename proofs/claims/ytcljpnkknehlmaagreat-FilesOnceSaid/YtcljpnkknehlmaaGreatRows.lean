/-
  No cell of these rows narrows 'for every input' (looked for: loops, veiled, ifaces, maps, wideKeys, modest, calm, conditions, laid).
  DERIVED. THE GIVEN ROWS OF THIS SEAT. 2 by the template 'for every input the law returns true; each argument reads behind the call as it read before'; 0 by the template 'total and deterministic' (their statements: YtcljpnkknehlmaaGreatTotals.lean).
  GIVEN WITH THE SEED: the statements are not yours to turn. If you find one false, say at which input.
  Laid BY PROGRAM, IN A SANDBOX (cutbox-rows.mjs): the forced cells as the released guide's own fill.sh prints them over the translation 399c0903bf9dcd94… (all of the seat's roots in one cut). By AI agents, Wed Nov 11 2026. No macro, syntax, notation, axiom, sorry.
-/
import Derived.Test.YtcljpnkknehlmaaGreatChecked
import GoSem.Claim
import GoSem.ClaimJoined
import GoSem.ClaimMapViews
import Derived.JoinedTies
import Derived.KernelRfl
namespace Go.Proofs.YtcljpnkknehlmaaGreat
/- THE CELL 'sum', in the pinned program and in every row, IS THE sha256 OF THE DUMP (.gsa) THAT YtcljpnkknehlmaaGreatProg.lean LOADS. Nothing in Lean hashes anything: it is a label: what it is worth is what the hold of that sum in a sandbox is worth. -/
noncomputable def Tryz.pinned : Pinned := { name := "ytcljpnkknehlmaagreat", sum := "399c0903bf9dcd94194c93e8115caf9d63f45d32b674be112e64724ddfd31c32", checked := Tryz.checked }
namespace Rows
def none {H : Type} : Left H := { results := [], args := [] }

/-- 'maslinlaw06.FilesOnce': WHATEVER THE INPUT: true; the input reads as it did. -/
def filesOnceSpec : ChangeSpec := { name := "filesOnce", fn := fun _ => fun
  | [d1, d2, d3] => { results := [.lit (.bool true)], args := [d1, d2, d3] }
  | _ => none }
def filesOnceRow : OpenClaim := { program := "ytcljpnkknehlmaagreat", sum := "399c0903bf9dcd94194c93e8115caf9d63f45d32b674be112e64724ddfd31c32", func := "maslin/maslinlaw06.FilesOnce", spec := "filesOnce", inPlace := ["internal/abi.NoEscape", "maps.clone"], unfollowed := true, recurses := true, apart := false }
def FilesOnceSaid : Prop := filesOnceRow.holds Tryz.pinned (OpenSpec.ofChange filesOnceSpec)

/-- ITS FALSE NEIGHBOUR: 'it returns false'. Refute it at one input. -/
def filesOnceWrong : ChangeSpec := { name := "filesOnce", fn := fun _ => fun
  | [d1, d2, d3] => { results := [.lit (.bool false)], args := [d1, d2, d3] }
  | _ => none }
def FilesOnceWrongFalsely : Prop := filesOnceRow.holds Tryz.pinned (OpenSpec.ofChange filesOnceWrong)

/-- 'maslinlaw06.FilesBig': WHATEVER THE INPUT: true; the input reads as it did. -/
def filesBigSpec : ChangeSpec := { name := "filesBig", fn := fun _ => fun
  | [d1, d2, d3, d4] => { results := [.lit (.bool true)], args := [d1, d2, d3, d4] }
  | _ => none }
def filesBigRow : OpenClaim := { program := "ytcljpnkknehlmaagreat", sum := "399c0903bf9dcd94194c93e8115caf9d63f45d32b674be112e64724ddfd31c32", func := "maslin/maslinlaw06.FilesBig", spec := "filesBig", inPlace := ["internal/abi.NoEscape", "maps.clone"], unfollowed := true, recurses := true, apart := false }
def FilesBigSaid : Prop := filesBigRow.holds Tryz.pinned (OpenSpec.ofChange filesBigSpec)

/-- ITS FALSE NEIGHBOUR: 'it returns false'. Refute it at one input. -/
def filesBigWrong : ChangeSpec := { name := "filesBig", fn := fun _ => fun
  | [d1, d2, d3, d4] => { results := [.lit (.bool false)], args := [d1, d2, d3, d4] }
  | _ => none }
def FilesBigWrongFalsely : Prop := filesBigRow.holds Tryz.pinned (OpenSpec.ofChange filesBigWrong)

/- THE SECOND FORM. 'bulk': how many values and letters a reading holds, each counted each time it is reached (what is shared counts as often as it is met; a slice's spare places count too). A statement '..UptoSaid' is the law's where the arguments, and the package variables that the reading takes, are together of bulk at most 1048576: NARROWER than '..Said'. Prove '..Said' where nothing that the law and all that it calls make is longer than what came in: it says more and counts as full. Else prove '..UptoSaid'. A law counts once. -/
mutual
def uptoBulk {H : Type} : DataW H → Nat
  | .lit (.string bytes) => bytes.length + 1
  | .lit _ => 1
  | .nil => 1
  | .ptr d => uptoBulk d + 1
  | .slice elems spare => uptoBulkAll elems + uptoBulkAll spare + 1
  | .agg parts => uptoBulkAll parts + 1
  | .iface _ d => uptoBulk d + 1
  | .map entries => uptoBulkEntries entries + 1
  | .held _ => 1
def uptoBulkAll {H : Type} : List (DataW H) → Nat
  | [] => 0
  | d :: r => uptoBulk d + uptoBulkAll r
def uptoBulkEntries {H : Type} : List (Lit × DataW H) → Nat
  | [] => 0
  | x :: r => uptoBulkEntry x + uptoBulkEntries r
def uptoBulkEntry {H : Type} : Lit × DataW H → Nat
  | (.string bytes, d) => bytes.length + uptoBulk d + 1
  | (_, d) => uptoBulk d + 1
 end
def uptoSmall : (H : Type) → List (DataW H) → Bool := fun _ ds => decide (uptoBulkAll ds ≤ 1048576)
def OpenSpec.upto (s : _root_.Go.ChangeSpec) : _root_.Go.OpenSpec := { _root_.Go.OpenSpec.ofChange s with cond := some uptoSmall }

/-- 'maslinlaw06.FilesOnce', WHERE WHAT IT READS IS OF BULK AT MOST 1048576: true; the input reads as it did. -/
def filesOnceUptoRow : OpenClaim := { program := "ytcljpnkknehlmaagreat", sum := "399c0903bf9dcd94194c93e8115caf9d63f45d32b674be112e64724ddfd31c32", func := "maslin/maslinlaw06.FilesOnce", spec := "filesOnce", inPlace := ["internal/abi.NoEscape", "maps.clone"], unfollowed := true, recurses := true, apart := false, narrowed := true }
def FilesOnceUptoSaid : Prop := filesOnceUptoRow.holds Tryz.pinned (OpenSpec.upto filesOnceSpec)

/-- 'maslinlaw06.FilesBig', WHERE WHAT IT READS IS OF BULK AT MOST 1048576: true; the input reads as it did. -/
def filesBigUptoRow : OpenClaim := { program := "ytcljpnkknehlmaagreat", sum := "399c0903bf9dcd94194c93e8115caf9d63f45d32b674be112e64724ddfd31c32", func := "maslin/maslinlaw06.FilesBig", spec := "filesBig", inPlace := ["internal/abi.NoEscape", "maps.clone"], unfollowed := true, recurses := true, apart := false, narrowed := true }
def FilesBigUptoSaid : Prop := filesBigUptoRow.holds Tryz.pinned (OpenSpec.upto filesBigSpec)

end Rows
end Go.Proofs.YtcljpnkknehlmaaGreat
