/-
  DERIVED. GIVEN WITH THE SEED: THE CARDS: each row of YthgcgjpbhbikaaaDoorRows.lean that lists a variable, with what it lists TIED to the program's text (the seventh form; the later family's looks); each row that meets fmt, with fmt's text TOLD by the authors' own Lean function (tested against real Go, not proved from fmt's source: count such statements apart). THE CARD IS WHAT COUNTS. Prove the row's statement (the work); the ties are given (YthgcgjpbhbikaaaDoorTie.lean); close each card by the builder's one call (the guide's Derived/Test/ToyasCard.lean, 'card_holds'). Laid BY PROGRAM, IN A SANDBOX (cutbox-door.mjs). By AI agents, Wed Nov 11 2026. No macro, syntax, notation, axiom, sorry.
-/
import Derived.Test.YthgcgjpbhbikaaaDoorRows
import GoSem.ClaimSeven
namespace Go.Proofs.YthgcgjpbhbikaaaDoor
namespace Rows

/-- THE TIED CARD OF 'tidegatelaw26.UrlLong'. -/
def urlLongCard : Claim7 := { stood := { row := urlLongRow, standIns := [], harness := (true, "b56bf26677ae5d55d06573e1fa31b6a1546ae64ff1b7f03cc931ca3c49b437a9"), looks := false }, kinds := [], alts := [], laidByText := true, laidKinds := [.data, .data, .data, .data, .pinned], laidTests := true, laidLooks := .later }
def UrlLongCardSaid : Prop := Claim7.holds Tryd.pinned (.plain (OpenSpec.ofChange urlLongSpec)) urlLongCard

/-- THE SECOND FORM's CARD OF 'tidegatelaw26.UrlLong'. -/
def urlLongUptoCard : Claim7 := { stood := { row := urlLongUptoRow, standIns := [], harness := (true, "b56bf26677ae5d55d06573e1fa31b6a1546ae64ff1b7f03cc931ca3c49b437a9"), looks := false }, kinds := [], alts := [], laidByText := true, laidKinds := [.data, .data, .data, .data, .pinned], laidTests := true, laidLooks := .later }
def UrlLongUptoCardSaid : Prop := Claim7.holds Tryd.pinned (.plain (OpenSpec.upto urlLongSpec)) urlLongUptoCard
end Rows
end Go.Proofs.YthgcgjpbhbikaaaDoor
