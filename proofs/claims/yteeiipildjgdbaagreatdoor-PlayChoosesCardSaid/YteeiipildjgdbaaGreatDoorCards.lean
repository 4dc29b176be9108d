/-
  DERIVED. GIVEN WITH THE SEED: THE CARDS: each row of YteeiipildjgdbaaGreatDoorRows.lean that lists a variable, with what it lists TIED to the program's text (the seventh form; the later family's looks); each row that meets fmt, with fmt's text TOLD by the authors' own Lean function (tested against real Go, not proved from fmt's source: count such statements apart). THE CARD IS WHAT COUNTS. Prove the row's statement (the work); the ties are given (YteeiipildjgdbaaGreatDoorTie.lean); close each card by the builder's one call (the guide's Derived/Test/ToyasCard.lean, 'card_holds'). Laid BY PROGRAM, IN A SANDBOX (cutbox-door.mjs). By AI agents, Wed Nov 11 2026. No macro, syntax, notation, axiom, sorry.
-/
import Derived.Test.YteeiipildjgdbaaGreatDoorRows
import GoSem.ClaimSeven
namespace Go.Proofs.YteeiipildjgdbaaGreatDoor
namespace Rows

/-- THE TIED CARD OF 'tidegatelaw42.PlayDiffs'. -/
def playDiffsCard : Claim7 := { stood := { row := playDiffsRow, standIns := [], harness := (true, "56337ec1420cfcb32927494ba929671f3192154efd011a8f49d1b0439fc219d7"), looks := true }, kinds := [], alts := [], laidByText := true, laidKinds := [.pinned, .data, .data, .data, .data, .data, .listed], laidTests := true, laidLooks := .later }
def PlayDiffsCardSaid : Prop := Claim7.holds Tryz.pinned (.plain (OpenSpec.ofChange playDiffsSpec)) playDiffsCard

/-- THE TIED CARD OF 'tidegatelaw42.PlayChooses'. -/
def playChoosesCard : Claim7 := { stood := { row := playChoosesRow, standIns := [], harness := (true, "56337ec1420cfcb32927494ba929671f3192154efd011a8f49d1b0439fc219d7"), looks := true }, kinds := [], alts := [], laidByText := true, laidKinds := [.pinned, .data, .data, .data, .data, .data, .listed], laidTests := true, laidLooks := .later }
def PlayChoosesCardSaid : Prop := Claim7.holds Tryz.pinned (.plain (OpenSpec.ofChange playChoosesSpec)) playChoosesCard

/-- THE SECOND FORM's CARD OF 'tidegatelaw42.PlayDiffs'. -/
def playDiffsUptoCard : Claim7 := { stood := { row := playDiffsUptoRow, standIns := [], harness := (true, "56337ec1420cfcb32927494ba929671f3192154efd011a8f49d1b0439fc219d7"), looks := true }, kinds := [], alts := [], laidByText := true, laidKinds := [.pinned, .data, .data, .data, .data, .data, .listed], laidTests := true, laidLooks := .later }
def PlayDiffsUptoCardSaid : Prop := Claim7.holds Tryz.pinned (.plain (OpenSpec.upto playDiffsSpec)) playDiffsUptoCard

/-- THE SECOND FORM's CARD OF 'tidegatelaw42.PlayChooses'. -/
def playChoosesUptoCard : Claim7 := { stood := { row := playChoosesUptoRow, standIns := [], harness := (true, "56337ec1420cfcb32927494ba929671f3192154efd011a8f49d1b0439fc219d7"), looks := true }, kinds := [], alts := [], laidByText := true, laidKinds := [.pinned, .data, .data, .data, .data, .data, .listed], laidTests := true, laidLooks := .later }
def PlayChoosesUptoCardSaid : Prop := Claim7.holds Tryz.pinned (.plain (OpenSpec.upto playChoosesSpec)) playChoosesUptoCard
end Rows
end Go.Proofs.YteeiipildjgdbaaGreatDoor
