/-
  DERIVED. GIVEN WITH THE SEED: THE CARDS: each row of YtkmninbcgipliaaGreatDoorRows.lean that lists a variable, with what it lists TIED to the program's text (the seventh form; the later family's looks); each row that meets fmt, with fmt's text TOLD by the authors' own Lean function (tested against real Go, not proved from fmt's source: count such statements apart). THE CARD IS WHAT COUNTS. Prove the row's statement (the work); the ties are given (YtkmninbcgipliaaGreatDoorTie.lean); close each card by the builder's one call (the guide's Derived/Test/ToyasCard.lean, 'card_holds'). Laid BY PROGRAM, IN A SANDBOX (cutbox-door.mjs). By AI agents, Wed Nov 11 2026. No macro, syntax, notation, axiom, sorry.
-/
import Derived.Test.YtkmninbcgipliaaGreatDoorRows
import GoSem.ClaimSeven
namespace Go.Proofs.YtkmninbcgipliaaGreatDoor
namespace Rows

/-- THE TIED CARD OF 'maslinlaw29.FsckLines'. -/
def fsckLinesCard : Claim7 := { stood := { row := fsckLinesRow, standIns := [], harness := (true, "9572a36aef90b85c2dbfd3f5f403fb5c5422c1f714021732628e591f12a5154c"), looks := true }, kinds := [], alts := [], laidByText := true, laidKinds := [.data, .pinned], laidTests := true, laidLooks := .later }
def FsckLinesCardSaid : Prop := Claim7.holds Tryz.pinned (.plain (OpenSpec.ofChange fsckLinesSpec)) fsckLinesCard

/-- THE TIED CARD OF 'maslinlaw29.FsckFinds'. -/
def fsckFindsCard : Claim7 := { stood := { row := fsckFindsRow, standIns := [], harness := (true, "9572a36aef90b85c2dbfd3f5f403fb5c5422c1f714021732628e591f12a5154c"), looks := true }, kinds := [], alts := [], laidByText := true, laidKinds := [.data, .pinned], laidTests := true, laidLooks := .later }
def FsckFindsCardSaid : Prop := Claim7.holds Tryz.pinned (.plain (OpenSpec.ofChange fsckFindsSpec)) fsckFindsCard

/-- THE TIED CARD OF 'maslinlaw29.FsckCrash'. -/
def fsckCrashCard : Claim7 := { stood := { row := fsckCrashRow, standIns := [], harness := (true, "9572a36aef90b85c2dbfd3f5f403fb5c5422c1f714021732628e591f12a5154c"), looks := true }, kinds := [], alts := [], laidByText := true, laidKinds := [.data, .pinned], laidTests := true, laidLooks := .later }
def FsckCrashCardSaid : Prop := Claim7.holds Tryz.pinned (.plain (OpenSpec.ofChange fsckCrashSpec)) fsckCrashCard

/-- THE SECOND FORM's CARD OF 'maslinlaw29.FsckLines'. -/
def fsckLinesUptoCard : Claim7 := { stood := { row := fsckLinesUptoRow, standIns := [], harness := (true, "9572a36aef90b85c2dbfd3f5f403fb5c5422c1f714021732628e591f12a5154c"), looks := true }, kinds := [], alts := [], laidByText := true, laidKinds := [.data, .pinned], laidTests := true, laidLooks := .later }
def FsckLinesUptoCardSaid : Prop := Claim7.holds Tryz.pinned (.plain (OpenSpec.upto fsckLinesSpec)) fsckLinesUptoCard

/-- THE SECOND FORM's CARD OF 'maslinlaw29.FsckFinds'. -/
def fsckFindsUptoCard : Claim7 := { stood := { row := fsckFindsUptoRow, standIns := [], harness := (true, "9572a36aef90b85c2dbfd3f5f403fb5c5422c1f714021732628e591f12a5154c"), looks := true }, kinds := [], alts := [], laidByText := true, laidKinds := [.data, .pinned], laidTests := true, laidLooks := .later }
def FsckFindsUptoCardSaid : Prop := Claim7.holds Tryz.pinned (.plain (OpenSpec.upto fsckFindsSpec)) fsckFindsUptoCard

/-- THE SECOND FORM's CARD OF 'maslinlaw29.FsckCrash'. -/
def fsckCrashUptoCard : Claim7 := { stood := { row := fsckCrashUptoRow, standIns := [], harness := (true, "9572a36aef90b85c2dbfd3f5f403fb5c5422c1f714021732628e591f12a5154c"), looks := true }, kinds := [], alts := [], laidByText := true, laidKinds := [.data, .pinned], laidTests := true, laidLooks := .later }
def FsckCrashUptoCardSaid : Prop := Claim7.holds Tryz.pinned (.plain (OpenSpec.upto fsckCrashSpec)) fsckCrashUptoCard
end Rows
end Go.Proofs.YtkmninbcgipliaaGreatDoor
