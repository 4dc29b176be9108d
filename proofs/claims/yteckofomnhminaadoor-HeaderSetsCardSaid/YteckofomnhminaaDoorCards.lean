/-
  DERIVED. GIVEN WITH THE SEED: THE CARDS: each row of YteckofomnhminaaDoorRows.lean that lists a variable, with what it lists TIED to the program's text (the seventh form; the later family's looks); each row that meets fmt, with fmt's text TOLD by the authors' own Lean function (tested against real Go, not proved from fmt's source: count such statements apart). THE CARD IS WHAT COUNTS. Prove the row's statement (the work); the ties are given (YteckofomnhminaaDoorTie.lean); close each card by the builder's one call (the guide's Derived/Test/ToyasCard.lean, 'card_holds'). Laid BY PROGRAM, IN A SANDBOX (cutbox-door.mjs). By AI agents, Wed Nov 11 2026. No macro, syntax, notation, axiom, sorry.
-/
import Derived.Test.YteckofomnhminaaDoorRows
import GoSem.ClaimSeven
namespace Go.Proofs.YteckofomnhminaaDoor
namespace Rows

/-- THE TIED CARD OF 'tidegatelaw22.HeaderBack'. -/
def headerBackCard : Claim7 := { stood := { row := headerBackRow, standIns := [], harness := (true, "8922fc22176a9af58cb4543b39fba523903817fb0d68b16d38be476ddbf896a9"), looks := false }, kinds := [], alts := [], laidByText := true, laidKinds := [.data, .pinned], laidTests := true, laidLooks := .later }
def HeaderBackCardSaid : Prop := Claim7.holds Tryd.pinned (.plain (OpenSpec.ofChange headerBackSpec)) headerBackCard

/-- THE TIED CARD OF 'tidegatelaw22.HeaderSets'. -/
def headerSetsCard : Claim7 := { stood := { row := headerSetsRow, standIns := [], harness := (true, "8922fc22176a9af58cb4543b39fba523903817fb0d68b16d38be476ddbf896a9"), looks := false }, kinds := [], alts := [], laidByText := true, laidKinds := [.data, .pinned], laidTests := true, laidLooks := .later }
def HeaderSetsCardSaid : Prop := Claim7.holds Tryd.pinned (.plain (OpenSpec.ofChange headerSetsSpec)) headerSetsCard

/-- THE TIED CARD OF 'tidegatelaw09.JnumParts'. -/
def jnumPartsCard : Claim7 := { stood := { row := jnumPartsRow, standIns := [], harness := (true, "8922fc22176a9af58cb4543b39fba523903817fb0d68b16d38be476ddbf896a9"), looks := false }, kinds := [], alts := [], laidByText := true, laidKinds := [.data, .pinned], laidTests := true, laidLooks := .later }
def JnumPartsCardSaid : Prop := Claim7.holds Tryd.pinned (.plain (OpenSpec.ofChange jnumPartsSpec)) jnumPartsCard

/-- THE TIED CARD OF 'tidegatelaw09.JnumScans'. -/
def jnumScansCard : Claim7 := { stood := { row := jnumScansRow, standIns := [], harness := (true, "8922fc22176a9af58cb4543b39fba523903817fb0d68b16d38be476ddbf896a9"), looks := false }, kinds := [], alts := [], laidByText := true, laidKinds := [.data, .pinned], laidTests := true, laidLooks := .later }
def JnumScansCardSaid : Prop := Claim7.holds Tryd.pinned (.plain (OpenSpec.ofChange jnumScansSpec)) jnumScansCard

/-- THE TIED CARD OF 'tidegatelaw09.JnumValues'. -/
def jnumValuesCard : Claim7 := { stood := { row := jnumValuesRow, standIns := [], harness := (true, "8922fc22176a9af58cb4543b39fba523903817fb0d68b16d38be476ddbf896a9"), looks := false }, kinds := [], alts := [], laidByText := true, laidKinds := [.data, .pinned], laidTests := true, laidLooks := .later }
def JnumValuesCardSaid : Prop := Claim7.holds Tryd.pinned (.plain (OpenSpec.ofChange jnumValuesSpec)) jnumValuesCard

/-- THE TIED CARD OF 'tidegatelaw26.UrlLong'. -/
def urlLongCard : Claim7 := { stood := { row := urlLongRow, standIns := [], harness := (true, "8922fc22176a9af58cb4543b39fba523903817fb0d68b16d38be476ddbf896a9"), looks := false }, kinds := [], alts := [], laidByText := true, laidKinds := [.data, .data, .data, .data, .pinned], laidTests := true, laidLooks := .later }
def UrlLongCardSaid : Prop := Claim7.holds Tryd.pinned (.plain (OpenSpec.ofChange urlLongSpec)) urlLongCard

/-- THE SECOND FORM's CARD OF 'tidegatelaw22.HeaderBack'. -/
def headerBackUptoCard : Claim7 := { stood := { row := headerBackUptoRow, standIns := [], harness := (true, "8922fc22176a9af58cb4543b39fba523903817fb0d68b16d38be476ddbf896a9"), looks := false }, kinds := [], alts := [], laidByText := true, laidKinds := [.data, .pinned], laidTests := true, laidLooks := .later }
def HeaderBackUptoCardSaid : Prop := Claim7.holds Tryd.pinned (.plain (OpenSpec.upto headerBackSpec)) headerBackUptoCard

/-- THE SECOND FORM's CARD OF 'tidegatelaw22.HeaderSets'. -/
def headerSetsUptoCard : Claim7 := { stood := { row := headerSetsUptoRow, standIns := [], harness := (true, "8922fc22176a9af58cb4543b39fba523903817fb0d68b16d38be476ddbf896a9"), looks := false }, kinds := [], alts := [], laidByText := true, laidKinds := [.data, .pinned], laidTests := true, laidLooks := .later }
def HeaderSetsUptoCardSaid : Prop := Claim7.holds Tryd.pinned (.plain (OpenSpec.upto headerSetsSpec)) headerSetsUptoCard

/-- THE SECOND FORM's CARD OF 'tidegatelaw09.JnumParts'. -/
def jnumPartsUptoCard : Claim7 := { stood := { row := jnumPartsUptoRow, standIns := [], harness := (true, "8922fc22176a9af58cb4543b39fba523903817fb0d68b16d38be476ddbf896a9"), looks := false }, kinds := [], alts := [], laidByText := true, laidKinds := [.data, .pinned], laidTests := true, laidLooks := .later }
def JnumPartsUptoCardSaid : Prop := Claim7.holds Tryd.pinned (.plain (OpenSpec.upto jnumPartsSpec)) jnumPartsUptoCard

/-- THE SECOND FORM's CARD OF 'tidegatelaw09.JnumScans'. -/
def jnumScansUptoCard : Claim7 := { stood := { row := jnumScansUptoRow, standIns := [], harness := (true, "8922fc22176a9af58cb4543b39fba523903817fb0d68b16d38be476ddbf896a9"), looks := false }, kinds := [], alts := [], laidByText := true, laidKinds := [.data, .pinned], laidTests := true, laidLooks := .later }
def JnumScansUptoCardSaid : Prop := Claim7.holds Tryd.pinned (.plain (OpenSpec.upto jnumScansSpec)) jnumScansUptoCard

/-- THE SECOND FORM's CARD OF 'tidegatelaw09.JnumValues'. -/
def jnumValuesUptoCard : Claim7 := { stood := { row := jnumValuesUptoRow, standIns := [], harness := (true, "8922fc22176a9af58cb4543b39fba523903817fb0d68b16d38be476ddbf896a9"), looks := false }, kinds := [], alts := [], laidByText := true, laidKinds := [.data, .pinned], laidTests := true, laidLooks := .later }
def JnumValuesUptoCardSaid : Prop := Claim7.holds Tryd.pinned (.plain (OpenSpec.upto jnumValuesSpec)) jnumValuesUptoCard

/-- THE SECOND FORM's CARD OF 'tidegatelaw26.UrlLong'. -/
def urlLongUptoCard : Claim7 := { stood := { row := urlLongUptoRow, standIns := [], harness := (true, "8922fc22176a9af58cb4543b39fba523903817fb0d68b16d38be476ddbf896a9"), looks := false }, kinds := [], alts := [], laidByText := true, laidKinds := [.data, .data, .data, .data, .pinned], laidTests := true, laidLooks := .later }
def UrlLongUptoCardSaid : Prop := Claim7.holds Tryd.pinned (.plain (OpenSpec.upto urlLongSpec)) urlLongUptoCard
end Rows
end Go.Proofs.YteckofomnhminaaDoor
