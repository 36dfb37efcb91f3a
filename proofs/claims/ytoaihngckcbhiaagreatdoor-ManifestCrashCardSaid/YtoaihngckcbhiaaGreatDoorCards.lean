/-
  DERIVED. GIVEN WITH THE SEED: THE CARDS: each row of YtoaihngckcbhiaaGreatDoorRows.lean that lists a variable, with what it lists TIED to the program's text (the seventh form; the later family's looks); each row that meets fmt, with fmt's text TOLD by the authors' own Lean function (tested against real Go, not proved from fmt's source: count such statements apart). THE CARD IS WHAT COUNTS. Prove the row's statement (the work); the ties are given (YtoaihngckcbhiaaGreatDoorTie.lean); close each card by the builder's one call (the guide's Derived/Test/ToyasCard.lean, 'card_holds'). Laid BY PROGRAM, IN A SANDBOX (cutbox-door.mjs). By AI agents, Wed Nov 11 2026. No macro, syntax, notation, axiom, sorry.
-/
import Derived.Test.YtoaihngckcbhiaaGreatDoorRows
import GoSem.ClaimSeven
namespace Go.Proofs.YtoaihngckcbhiaaGreatDoor
namespace Rows

/-- THE TIED CARD OF 'maslinlaw32.ManifestCrash'. -/
def manifestCrashCard : Claim7 := { stood := { row := manifestCrashRow, standIns := [], harness := (true, "9c5c1fa80f17bc92dfd7e70e49327728d14917f8703391d86dae904094e72728"), looks := true }, kinds := [], alts := [], laidByText := true, laidKinds := [.data, .data, .data], laidTests := true, laidLooks := .later }
def ManifestCrashCardSaid : Prop := Claim7.holds Tryz.pinned (.plain (OpenSpec.ofChange manifestCrashSpec)) manifestCrashCard

/-- THE SECOND FORM's CARD OF 'maslinlaw32.ManifestCrash'. -/
def manifestCrashUptoCard : Claim7 := { stood := { row := manifestCrashUptoRow, standIns := [], harness := (true, "9c5c1fa80f17bc92dfd7e70e49327728d14917f8703391d86dae904094e72728"), looks := true }, kinds := [], alts := [], laidByText := true, laidKinds := [.data, .data, .data], laidTests := true, laidLooks := .later }
def ManifestCrashUptoCardSaid : Prop := Claim7.holds Tryz.pinned (.plain (OpenSpec.upto manifestCrashSpec)) manifestCrashUptoCard
end Rows
end Go.Proofs.YtoaihngckcbhiaaGreatDoor
