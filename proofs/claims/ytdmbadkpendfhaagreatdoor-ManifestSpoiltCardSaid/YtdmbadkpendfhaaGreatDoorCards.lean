/-
  DERIVED. GIVEN WITH THE SEED: THE CARDS: each row of YtdmbadkpendfhaaGreatDoorRows.lean that lists a variable, with what it lists TIED to the program's text (the seventh form; the later family's looks); each row that meets fmt, with fmt's text TOLD by the authors' own Lean function (tested against real Go, not proved from fmt's source: count such statements apart). THE CARD IS WHAT COUNTS. Prove the row's statement (the work); the ties are given (YtdmbadkpendfhaaGreatDoorTie.lean); close each card by the builder's one call (the guide's Derived/Test/ToyasCard.lean, 'card_holds'). Laid BY PROGRAM, IN A SANDBOX (cutbox-door.mjs). By AI agents, Wed Nov 11 2026. No macro, syntax, notation, axiom, sorry.
-/
import Derived.Test.YtdmbadkpendfhaaGreatDoorRows
import GoSem.ClaimSeven
namespace Go.Proofs.YtdmbadkpendfhaaGreatDoor
namespace Rows

/-- THE TIED CARD OF 'maslinlaw32.ManifestDone'. -/
def manifestDoneCard : Claim7 := { stood := { row := manifestDoneRow, standIns := [], harness := (true, "d9601039da35cb5dc0a0d3e766f7f5b3d8c5f550ab9268386db9b58476afb300"), looks := true }, kinds := [], alts := [], laidByText := true, laidKinds := [.data, .data, .data], laidTests := true, laidLooks := .later }
def ManifestDoneCardSaid : Prop := Claim7.holds Tryz.pinned (.plain (OpenSpec.ofChange manifestDoneSpec)) manifestDoneCard

/-- THE TIED CARD OF 'maslinlaw32.ManifestSpoilt'. -/
def manifestSpoiltCard : Claim7 := { stood := { row := manifestSpoiltRow, standIns := [], harness := (true, "d9601039da35cb5dc0a0d3e766f7f5b3d8c5f550ab9268386db9b58476afb300"), looks := true }, kinds := [], alts := [], laidByText := true, laidKinds := [.data, .data, .data], laidTests := true, laidLooks := .later }
def ManifestSpoiltCardSaid : Prop := Claim7.holds Tryz.pinned (.plain (OpenSpec.ofChange manifestSpoiltSpec)) manifestSpoiltCard

/-- THE TIED CARD OF 'maslinlaw32.ManifestCrash'. -/
def manifestCrashCard : Claim7 := { stood := { row := manifestCrashRow, standIns := [], harness := (true, "d9601039da35cb5dc0a0d3e766f7f5b3d8c5f550ab9268386db9b58476afb300"), looks := true }, kinds := [], alts := [], laidByText := true, laidKinds := [.data, .data, .data], laidTests := true, laidLooks := .later }
def ManifestCrashCardSaid : Prop := Claim7.holds Tryz.pinned (.plain (OpenSpec.ofChange manifestCrashSpec)) manifestCrashCard

/-- THE SECOND FORM's CARD OF 'maslinlaw32.ManifestDone'. -/
def manifestDoneUptoCard : Claim7 := { stood := { row := manifestDoneUptoRow, standIns := [], harness := (true, "d9601039da35cb5dc0a0d3e766f7f5b3d8c5f550ab9268386db9b58476afb300"), looks := true }, kinds := [], alts := [], laidByText := true, laidKinds := [.data, .data, .data], laidTests := true, laidLooks := .later }
def ManifestDoneUptoCardSaid : Prop := Claim7.holds Tryz.pinned (.plain (OpenSpec.upto manifestDoneSpec)) manifestDoneUptoCard

/-- THE SECOND FORM's CARD OF 'maslinlaw32.ManifestSpoilt'. -/
def manifestSpoiltUptoCard : Claim7 := { stood := { row := manifestSpoiltUptoRow, standIns := [], harness := (true, "d9601039da35cb5dc0a0d3e766f7f5b3d8c5f550ab9268386db9b58476afb300"), looks := true }, kinds := [], alts := [], laidByText := true, laidKinds := [.data, .data, .data], laidTests := true, laidLooks := .later }
def ManifestSpoiltUptoCardSaid : Prop := Claim7.holds Tryz.pinned (.plain (OpenSpec.upto manifestSpoiltSpec)) manifestSpoiltUptoCard

/-- THE SECOND FORM's CARD OF 'maslinlaw32.ManifestCrash'. -/
def manifestCrashUptoCard : Claim7 := { stood := { row := manifestCrashUptoRow, standIns := [], harness := (true, "d9601039da35cb5dc0a0d3e766f7f5b3d8c5f550ab9268386db9b58476afb300"), looks := true }, kinds := [], alts := [], laidByText := true, laidKinds := [.data, .data, .data], laidTests := true, laidLooks := .later }
def ManifestCrashUptoCardSaid : Prop := Claim7.holds Tryz.pinned (.plain (OpenSpec.upto manifestCrashSpec)) manifestCrashUptoCard
end Rows
end Go.Proofs.YtdmbadkpendfhaaGreatDoor
