/-
  DERIVED. GIVEN WITH THE SEED: THE CARDS: each row of YtgmhglcdifhimaaDoorRows.lean that lists a variable, with what it lists TIED to the program's text (the seventh form; the later family's looks); each row that meets fmt, with fmt's text TOLD by the authors' own Lean function (tested against real Go, not proved from fmt's source: count such statements apart). THE CARD IS WHAT COUNTS. Prove the row's statement (the work); the ties are given (YtgmhglcdifhimaaDoorTie.lean); close each card by the builder's one call (the guide's Derived/Test/ToyasCard.lean, 'card_holds'). Laid BY PROGRAM, IN A SANDBOX (cutbox-door.mjs). By AI agents, Wed Nov 11 2026. No macro, syntax, notation, axiom, sorry.
-/
import Derived.Test.YtgmhglcdifhimaaDoorRows
import GoSem.ClaimSeven
namespace Go.Proofs.YtgmhglcdifhimaaDoor
namespace Rows

/-- THE TIED CARD OF 'maslinlaw31.SchedDies'. -/
def schedDiesCard : Claim7 := { stood := { row := schedDiesRow, standIns := [], harness := (true, "63bd5462b2be6cf8be83ef84ba6252bfbb3e810e62ea93ea68b1ce18b759c7f5"), looks := false }, kinds := [], alts := [], laidByText := true, laidKinds := [.funcs], laidTests := true, laidLooks := .later }
def SchedDiesCardSaid : Prop := Claim7.holds Tryd.pinned (.plain (OpenSpec.ofChange schedDiesSpec)) schedDiesCard

/-- THE TIED CARD OF 'maslinlaw31.SchedSame'. -/
def schedSameCard : Claim7 := { stood := { row := schedSameRow, standIns := [], harness := (true, "63bd5462b2be6cf8be83ef84ba6252bfbb3e810e62ea93ea68b1ce18b759c7f5"), looks := false }, kinds := [], alts := [], laidByText := true, laidKinds := [.funcs], laidTests := true, laidLooks := .later }
def SchedSameCardSaid : Prop := Claim7.holds Tryd.pinned (.plain (OpenSpec.ofChange schedSameSpec)) schedSameCard

/-- THE TIED CARD OF 'maslinlaw31.SchedPlays'. -/
def schedPlaysCard : Claim7 := { stood := { row := schedPlaysRow, standIns := [], harness := (true, "63bd5462b2be6cf8be83ef84ba6252bfbb3e810e62ea93ea68b1ce18b759c7f5"), looks := false }, kinds := [], alts := [], laidByText := true, laidKinds := [.funcs], laidTests := true, laidLooks := .later }
def SchedPlaysCardSaid : Prop := Claim7.holds Tryd.pinned (.plain (OpenSpec.ofChange schedPlaysSpec)) schedPlaysCard

/-- THE TIED CARD OF 'maslinlaw31.SchedEnds'. -/
def schedEndsCard : Claim7 := { stood := { row := schedEndsRow, standIns := [], harness := (true, "63bd5462b2be6cf8be83ef84ba6252bfbb3e810e62ea93ea68b1ce18b759c7f5"), looks := false }, kinds := [], alts := [], laidByText := true, laidKinds := [.funcs], laidTests := true, laidLooks := .later }
def SchedEndsCardSaid : Prop := Claim7.holds Tryd.pinned (.plain (OpenSpec.ofChange schedEndsSpec)) schedEndsCard

/-- THE SECOND FORM's CARD OF 'maslinlaw31.SchedDies'. -/
def schedDiesUptoCard : Claim7 := { stood := { row := schedDiesUptoRow, standIns := [], harness := (true, "63bd5462b2be6cf8be83ef84ba6252bfbb3e810e62ea93ea68b1ce18b759c7f5"), looks := false }, kinds := [], alts := [], laidByText := true, laidKinds := [.funcs], laidTests := true, laidLooks := .later }
def SchedDiesUptoCardSaid : Prop := Claim7.holds Tryd.pinned (.plain (OpenSpec.upto schedDiesSpec)) schedDiesUptoCard

/-- THE SECOND FORM's CARD OF 'maslinlaw31.SchedSame'. -/
def schedSameUptoCard : Claim7 := { stood := { row := schedSameUptoRow, standIns := [], harness := (true, "63bd5462b2be6cf8be83ef84ba6252bfbb3e810e62ea93ea68b1ce18b759c7f5"), looks := false }, kinds := [], alts := [], laidByText := true, laidKinds := [.funcs], laidTests := true, laidLooks := .later }
def SchedSameUptoCardSaid : Prop := Claim7.holds Tryd.pinned (.plain (OpenSpec.upto schedSameSpec)) schedSameUptoCard

/-- THE SECOND FORM's CARD OF 'maslinlaw31.SchedPlays'. -/
def schedPlaysUptoCard : Claim7 := { stood := { row := schedPlaysUptoRow, standIns := [], harness := (true, "63bd5462b2be6cf8be83ef84ba6252bfbb3e810e62ea93ea68b1ce18b759c7f5"), looks := false }, kinds := [], alts := [], laidByText := true, laidKinds := [.funcs], laidTests := true, laidLooks := .later }
def SchedPlaysUptoCardSaid : Prop := Claim7.holds Tryd.pinned (.plain (OpenSpec.upto schedPlaysSpec)) schedPlaysUptoCard

/-- THE SECOND FORM's CARD OF 'maslinlaw31.SchedEnds'. -/
def schedEndsUptoCard : Claim7 := { stood := { row := schedEndsUptoRow, standIns := [], harness := (true, "63bd5462b2be6cf8be83ef84ba6252bfbb3e810e62ea93ea68b1ce18b759c7f5"), looks := false }, kinds := [], alts := [], laidByText := true, laidKinds := [.funcs], laidTests := true, laidLooks := .later }
def SchedEndsUptoCardSaid : Prop := Claim7.holds Tryd.pinned (.plain (OpenSpec.upto schedEndsSpec)) schedEndsUptoCard
end Rows
end Go.Proofs.YtgmhglcdifhimaaDoor
