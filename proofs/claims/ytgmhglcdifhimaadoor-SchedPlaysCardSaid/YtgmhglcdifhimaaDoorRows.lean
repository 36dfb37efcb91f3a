/-
  NARROWER THAN 'FOR EVERY INPUT', by the rows' own cells (each row's printed sentence says how): SchedDies: laid · SchedSame: laid · SchedPlays: laid · SchedEnds: laid.
  DERIVED. THE GIVEN ROWS OF THIS SEAT. 4 by the template 'for every input the law returns true; each argument reads behind the call as it read before'; 0 by the template 'total and deterministic' (their statements: YtgmhglcdifhimaaDoorTotals.lean).
  GIVEN WITH THE SEED: the statements are not yours to turn. If you find one false, say at which input.
  Laid BY PROGRAM, IN A SANDBOX (cutbox-rows.mjs): the forced cells as the released guide's own fill.sh prints them over the translation 18f49bdec5cad35c… (all of the seat's roots in one cut). By AI agents, Wed Nov 11 2026. No macro, syntax, notation, axiom, sorry.
-/
import Derived.Test.YtgmhglcdifhimaaDoorChecked
import GoSem.Claim
import GoSem.ClaimJoined
import GoSem.ClaimMapViews
import Derived.JoinedTies
import Derived.KernelRfl
namespace Go.Proofs.YtgmhglcdifhimaaDoor
/- THE CELL 'sum', in the pinned program and in every row, IS THE sha256 OF THE DUMP (.gsa) THAT YtgmhglcdifhimaaDoorProg.lean LOADS. Nothing in Lean hashes anything: it is a label: what it is worth is what the hold of that sum in a sandbox is worth. -/
noncomputable def Tryd.pinned : Pinned := { name := "ytgmhglcdifhimaadoor", sum := "18f49bdec5cad35c39c18daea6803c45868f6aba3ed31d5ab6a19e27fc03c45e", checked := Tryd.checked }
namespace Rows
def none {H : Type} : Left H := { results := [], args := [] }

/- WHAT THE LISTED PACKAGE-LEVEL VARIABLES READ AS WHEN THE CALL BEGINS. Each datum BY PROGRAM (the guide's laid-datum.mjs) off the statement by which the dump's own 'gosem.cut.vars' lays the variable. In a bare row this is a premise. The card (YtgmhglcdifhimaaDoorCards.lean) ties it to the program's text. -/
def laid_maslin_sched_does {H : Type} : DataW H := .iface "func table" (.agg [.iface "func" (.lit (.string [40, 42, 109, 97, 115, 108, 105, 110, 47, 115, 99, 104, 101, 100, 46, 77, 97, 115, 116, 101, 114, 41, 46, 115, 116, 97, 114, 116])), .iface "func" (.lit (.string [40, 42, 109, 97, 115, 108, 105, 110, 47, 115, 99, 104, 101, 100, 46, 77, 97, 115, 116, 101, 114, 41, 46, 99, 111, 112, 121])), .iface "func" (.lit (.string [40, 42, 109, 97, 115, 108, 105, 110, 47, 115, 99, 104, 101, 100, 46, 77, 97, 115, 116, 101, 114, 41, 46, 102, 105, 110, 105, 115, 104])), .iface "func" (.lit (.string [40, 42, 109, 97, 115, 108, 105, 110, 47, 115, 99, 104, 101, 100, 46, 77, 97, 115, 116, 101, 114, 41, 46, 102, 97, 105, 108])), .iface "func" (.lit (.string [40, 42, 109, 97, 115, 108, 105, 110, 47, 115, 99, 104, 101, 100, 46, 77, 97, 115, 116, 101, 114, 41, 46, 100, 105, 101])), .iface "func" (.lit (.string [40, 42, 109, 97, 115, 108, 105, 110, 47, 115, 99, 104, 101, 100, 46, 77, 97, 115, 116, 101, 114, 41, 46, 119, 97, 107, 101]))])

/-- 'maslinlaw31.SchedDies': WHATEVER THE INPUT: true; the input reads as it did. -/
def schedDiesSpec : ChangeSpec := { name := "schedDies", fn := fun _ => fun
  | [d1, d2, d3, d4] => { results := [.lit (.bool true)], args := [d1, d2, d3, d4] }
  | _ => none }
def schedDiesRow : OpenClaim := { program := "ytgmhglcdifhimaadoor", sum := "18f49bdec5cad35c39c18daea6803c45868f6aba3ed31d5ab6a19e27fc03c45e", func := "maslin/maslinlaw31.SchedDies", spec := "schedDies", unfollowed := true, recurses := true, named := ["maslin/sched.does"], apart := false, laid := [("maslin/sched.does", laid_maslin_sched_does)] }
def SchedDiesSaid : Prop := schedDiesRow.holds Tryd.pinned (OpenSpec.ofChange schedDiesSpec)

/-- ITS FALSE NEIGHBOUR: 'it returns false'. Refute it at one input. -/
def schedDiesWrong : ChangeSpec := { name := "schedDies", fn := fun _ => fun
  | [d1, d2, d3, d4] => { results := [.lit (.bool false)], args := [d1, d2, d3, d4] }
  | _ => none }
def SchedDiesWrongFalsely : Prop := schedDiesRow.holds Tryd.pinned (OpenSpec.ofChange schedDiesWrong)

/-- 'maslinlaw31.SchedSame': WHATEVER THE INPUT: true; the input reads as it did. -/
def schedSameSpec : ChangeSpec := { name := "schedSame", fn := fun _ => fun
  | [d1, d2, d3, d4, d5] => { results := [.lit (.bool true)], args := [d1, d2, d3, d4, d5] }
  | _ => none }
def schedSameRow : OpenClaim := { program := "ytgmhglcdifhimaadoor", sum := "18f49bdec5cad35c39c18daea6803c45868f6aba3ed31d5ab6a19e27fc03c45e", func := "maslin/maslinlaw31.SchedSame", spec := "schedSame", unfollowed := true, recurses := true, named := ["maslin/sched.does"], apart := false, laid := [("maslin/sched.does", laid_maslin_sched_does)] }
def SchedSameSaid : Prop := schedSameRow.holds Tryd.pinned (OpenSpec.ofChange schedSameSpec)

/-- ITS FALSE NEIGHBOUR: 'it returns false'. Refute it at one input. -/
def schedSameWrong : ChangeSpec := { name := "schedSame", fn := fun _ => fun
  | [d1, d2, d3, d4, d5] => { results := [.lit (.bool false)], args := [d1, d2, d3, d4, d5] }
  | _ => none }
def SchedSameWrongFalsely : Prop := schedSameRow.holds Tryd.pinned (OpenSpec.ofChange schedSameWrong)

/-- 'maslinlaw31.SchedPlays': WHATEVER THE INPUT: true; the input reads as it did. -/
def schedPlaysSpec : ChangeSpec := { name := "schedPlays", fn := fun _ => fun
  | [d1, d2, d3, d4] => { results := [.lit (.bool true)], args := [d1, d2, d3, d4] }
  | _ => none }
def schedPlaysRow : OpenClaim := { program := "ytgmhglcdifhimaadoor", sum := "18f49bdec5cad35c39c18daea6803c45868f6aba3ed31d5ab6a19e27fc03c45e", func := "maslin/maslinlaw31.SchedPlays", spec := "schedPlays", unfollowed := true, recurses := true, named := ["maslin/sched.does"], apart := false, laid := [("maslin/sched.does", laid_maslin_sched_does)] }
def SchedPlaysSaid : Prop := schedPlaysRow.holds Tryd.pinned (OpenSpec.ofChange schedPlaysSpec)

/-- ITS FALSE NEIGHBOUR: 'it returns false'. Refute it at one input. -/
def schedPlaysWrong : ChangeSpec := { name := "schedPlays", fn := fun _ => fun
  | [d1, d2, d3, d4] => { results := [.lit (.bool false)], args := [d1, d2, d3, d4] }
  | _ => none }
def SchedPlaysWrongFalsely : Prop := schedPlaysRow.holds Tryd.pinned (OpenSpec.ofChange schedPlaysWrong)

/-- 'maslinlaw31.SchedEnds': WHATEVER THE INPUT: true; the input reads as it did. -/
def schedEndsSpec : ChangeSpec := { name := "schedEnds", fn := fun _ => fun
  | [d1, d2, d3, d4] => { results := [.lit (.bool true)], args := [d1, d2, d3, d4] }
  | _ => none }
def schedEndsRow : OpenClaim := { program := "ytgmhglcdifhimaadoor", sum := "18f49bdec5cad35c39c18daea6803c45868f6aba3ed31d5ab6a19e27fc03c45e", func := "maslin/maslinlaw31.SchedEnds", spec := "schedEnds", unfollowed := true, recurses := true, named := ["maslin/sched.does"], apart := false, laid := [("maslin/sched.does", laid_maslin_sched_does)] }
def SchedEndsSaid : Prop := schedEndsRow.holds Tryd.pinned (OpenSpec.ofChange schedEndsSpec)

/-- ITS FALSE NEIGHBOUR: 'it returns false'. Refute it at one input. -/
def schedEndsWrong : ChangeSpec := { name := "schedEnds", fn := fun _ => fun
  | [d1, d2, d3, d4] => { results := [.lit (.bool false)], args := [d1, d2, d3, d4] }
  | _ => none }
def SchedEndsWrongFalsely : Prop := schedEndsRow.holds Tryd.pinned (OpenSpec.ofChange schedEndsWrong)

/- THE SECOND FORM. 'bulk': how many values and letters a reading holds, each counted each time it is reached (what is shared counts as often as it is met; a slice's spare places count too). A statement '..UptoSaid' is the law's where the arguments, and the package variables that the reading takes, are together of bulk at most 1048576: NARROWER than '..Said'. Prove '..Said' where nothing that the law and all that it calls make is longer than what came in: it says more and counts as full. Else prove '..UptoSaid'. A law counts once. -/
mutual
def uptoBulk {H : Type} : DataW H → Nat
  | .lit (.string bytes) => bytes.length + 1
  | .lit _ => 1
  | .nil => 1
  | .ptr d => uptoBulk d + 1
  | .slice elems spare => uptoBulkAll elems + uptoBulkAll spare + 1
  | .agg parts => uptoBulkAll parts + 1
  | .iface _ d => uptoBulk d + 1
  | .map entries => uptoBulkEntries entries + 1
  | .held _ => 1
def uptoBulkAll {H : Type} : List (DataW H) → Nat
  | [] => 0
  | d :: r => uptoBulk d + uptoBulkAll r
def uptoBulkEntries {H : Type} : List (Lit × DataW H) → Nat
  | [] => 0
  | x :: r => uptoBulkEntry x + uptoBulkEntries r
def uptoBulkEntry {H : Type} : Lit × DataW H → Nat
  | (.string bytes, d) => bytes.length + uptoBulk d + 1
  | (_, d) => uptoBulk d + 1
 end
def uptoSmall : (H : Type) → List (DataW H) → Bool := fun _ ds => decide (uptoBulkAll ds ≤ 1048576)
def OpenSpec.upto (s : _root_.Go.ChangeSpec) : _root_.Go.OpenSpec := { _root_.Go.OpenSpec.ofChange s with cond := some uptoSmall }

/-- 'maslinlaw31.SchedDies', WHERE WHAT IT READS IS OF BULK AT MOST 1048576: true; the input reads as it did. -/
def schedDiesUptoRow : OpenClaim := { program := "ytgmhglcdifhimaadoor", sum := "18f49bdec5cad35c39c18daea6803c45868f6aba3ed31d5ab6a19e27fc03c45e", func := "maslin/maslinlaw31.SchedDies", spec := "schedDies", unfollowed := true, recurses := true, named := ["maslin/sched.does"], apart := false, laid := [("maslin/sched.does", laid_maslin_sched_does)], narrowed := true }
def SchedDiesUptoSaid : Prop := schedDiesUptoRow.holds Tryd.pinned (OpenSpec.upto schedDiesSpec)

/-- 'maslinlaw31.SchedSame', WHERE WHAT IT READS IS OF BULK AT MOST 1048576: true; the input reads as it did. -/
def schedSameUptoRow : OpenClaim := { program := "ytgmhglcdifhimaadoor", sum := "18f49bdec5cad35c39c18daea6803c45868f6aba3ed31d5ab6a19e27fc03c45e", func := "maslin/maslinlaw31.SchedSame", spec := "schedSame", unfollowed := true, recurses := true, named := ["maslin/sched.does"], apart := false, laid := [("maslin/sched.does", laid_maslin_sched_does)], narrowed := true }
def SchedSameUptoSaid : Prop := schedSameUptoRow.holds Tryd.pinned (OpenSpec.upto schedSameSpec)

/-- 'maslinlaw31.SchedPlays', WHERE WHAT IT READS IS OF BULK AT MOST 1048576: true; the input reads as it did. -/
def schedPlaysUptoRow : OpenClaim := { program := "ytgmhglcdifhimaadoor", sum := "18f49bdec5cad35c39c18daea6803c45868f6aba3ed31d5ab6a19e27fc03c45e", func := "maslin/maslinlaw31.SchedPlays", spec := "schedPlays", unfollowed := true, recurses := true, named := ["maslin/sched.does"], apart := false, laid := [("maslin/sched.does", laid_maslin_sched_does)], narrowed := true }
def SchedPlaysUptoSaid : Prop := schedPlaysUptoRow.holds Tryd.pinned (OpenSpec.upto schedPlaysSpec)

/-- 'maslinlaw31.SchedEnds', WHERE WHAT IT READS IS OF BULK AT MOST 1048576: true; the input reads as it did. -/
def schedEndsUptoRow : OpenClaim := { program := "ytgmhglcdifhimaadoor", sum := "18f49bdec5cad35c39c18daea6803c45868f6aba3ed31d5ab6a19e27fc03c45e", func := "maslin/maslinlaw31.SchedEnds", spec := "schedEnds", unfollowed := true, recurses := true, named := ["maslin/sched.does"], apart := false, laid := [("maslin/sched.does", laid_maslin_sched_does)], narrowed := true }
def SchedEndsUptoSaid : Prop := schedEndsUptoRow.holds Tryd.pinned (OpenSpec.upto schedEndsSpec)

end Rows
end Go.Proofs.YtgmhglcdifhimaaDoor
