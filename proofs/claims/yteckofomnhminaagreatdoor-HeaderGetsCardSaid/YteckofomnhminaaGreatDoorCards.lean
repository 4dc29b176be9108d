/-
  DERIVED. GIVEN WITH THE SEED: THE CARDS: each row of YteckofomnhminaaGreatDoorRows.lean that lists a variable, with what it lists TIED to the program's text (the seventh form; the later family's looks); each row that meets fmt, with fmt's text TOLD by the authors' own Lean function (tested against real Go, not proved from fmt's source: count such statements apart). THE CARD IS WHAT COUNTS. Prove the row's statement (the work); the ties are given (YteckofomnhminaaGreatDoorTie.lean); close each card by the builder's one call (the guide's Derived/Test/ToyasCard.lean, 'card_holds'). Laid BY PROGRAM, IN A SANDBOX (cutbox-door.mjs). By AI agents, Wed Nov 11 2026. No macro, syntax, notation, axiom, sorry.
-/
import Derived.Test.YteckofomnhminaaGreatDoorRows
import GoSem.ClaimSeven
namespace Go.Proofs.YteckofomnhminaaGreatDoor
namespace Rows

/-- THE TIED CARD OF 'tidegatelaw22.HeaderGets'. -/
def headerGetsCard : Claim7 := { stood := { row := headerGetsRow, standIns := [], harness := (true, "dfbac12c0f8f8c9494000d12968be64cd3e1948791a62013891a18e5363be1d8"), looks := false }, kinds := [], alts := [], laidByText := true, laidKinds := [.data, .pinned], laidTests := true, laidLooks := .later }
def HeaderGetsCardSaid : Prop := Claim7.holds Tryz.pinned (.plain (OpenSpec.ofChange headerGetsSpec)) headerGetsCard

/-- THE TIED CARD OF 'tidegatelaw26.UrlReads'. -/
def urlReadsCard : Claim7 := { stood := { row := urlReadsRow, standIns := [], harness := (true, "dfbac12c0f8f8c9494000d12968be64cd3e1948791a62013891a18e5363be1d8"), looks := false }, kinds := [], alts := [], laidByText := true, laidKinds := [.data, .data, .data, .data, .pinned], laidTests := true, laidLooks := .later }
def UrlReadsCardSaid : Prop := Claim7.holds Tryz.pinned (.plain (OpenSpec.ofChange urlReadsSpec)) urlReadsCard

/-- THE TIED CARD OF 'tidegatelaw26.UrlWrites'. -/
def urlWritesCard : Claim7 := { stood := { row := urlWritesRow, standIns := [], harness := (true, "dfbac12c0f8f8c9494000d12968be64cd3e1948791a62013891a18e5363be1d8"), looks := false }, kinds := [], alts := [], laidByText := true, laidKinds := [.data, .data, .data, .data, .pinned], laidTests := true, laidLooks := .later }
def UrlWritesCardSaid : Prop := Claim7.holds Tryz.pinned (.plain (OpenSpec.ofChange urlWritesSpec)) urlWritesCard

/-- THE SECOND FORM's CARD OF 'tidegatelaw22.HeaderGets'. -/
def headerGetsUptoCard : Claim7 := { stood := { row := headerGetsUptoRow, standIns := [], harness := (true, "dfbac12c0f8f8c9494000d12968be64cd3e1948791a62013891a18e5363be1d8"), looks := false }, kinds := [], alts := [], laidByText := true, laidKinds := [.data, .pinned], laidTests := true, laidLooks := .later }
def HeaderGetsUptoCardSaid : Prop := Claim7.holds Tryz.pinned (.plain (OpenSpec.upto headerGetsSpec)) headerGetsUptoCard

/-- THE SECOND FORM's CARD OF 'tidegatelaw26.UrlReads'. -/
def urlReadsUptoCard : Claim7 := { stood := { row := urlReadsUptoRow, standIns := [], harness := (true, "dfbac12c0f8f8c9494000d12968be64cd3e1948791a62013891a18e5363be1d8"), looks := false }, kinds := [], alts := [], laidByText := true, laidKinds := [.data, .data, .data, .data, .pinned], laidTests := true, laidLooks := .later }
def UrlReadsUptoCardSaid : Prop := Claim7.holds Tryz.pinned (.plain (OpenSpec.upto urlReadsSpec)) urlReadsUptoCard

/-- THE SECOND FORM's CARD OF 'tidegatelaw26.UrlWrites'. -/
def urlWritesUptoCard : Claim7 := { stood := { row := urlWritesUptoRow, standIns := [], harness := (true, "dfbac12c0f8f8c9494000d12968be64cd3e1948791a62013891a18e5363be1d8"), looks := false }, kinds := [], alts := [], laidByText := true, laidKinds := [.data, .data, .data, .data, .pinned], laidTests := true, laidLooks := .later }
def UrlWritesUptoCardSaid : Prop := Claim7.holds Tryz.pinned (.plain (OpenSpec.upto urlWritesSpec)) urlWritesUptoCard
end Rows
end Go.Proofs.YteckofomnhminaaGreatDoor
