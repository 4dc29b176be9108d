/-
  DERIVED. GIVEN WITH THE SEED: THE CARDS: each row of YthgcgjpbhbikaaaGreatDoorRows.lean that lists a variable, with what it lists TIED to the program's text (the seventh form; the later family's looks); each row that meets fmt, with fmt's text TOLD by the authors' own Lean function (tested against real Go, not proved from fmt's source: count such statements apart). THE CARD IS WHAT COUNTS. Prove the row's statement (the work); the ties are given (YthgcgjpbhbikaaaGreatDoorTie.lean); close each card by the builder's one call (the guide's Derived/Test/ToyasCard.lean, 'card_holds'). Laid BY PROGRAM, IN A SANDBOX (cutbox-door.mjs). By AI agents, Wed Nov 11 2026. No macro, syntax, notation, axiom, sorry.
-/
import Derived.Test.YthgcgjpbhbikaaaGreatDoorRows
import GoSem.ClaimSeven
namespace Go.Proofs.YthgcgjpbhbikaaaGreatDoor
namespace Rows

/-- THE TIED CARD OF 'tidegatelaw40.ScriptReads'. -/
def scriptReadsCard : Claim7 := { stood := { row := scriptReadsRow, standIns := [], harness := (true, "242ef4524514621c0e0b0a28a797e2907b47cb3084d9589f3e6457bb8c20c825"), looks := false }, kinds := [], alts := [], laidByText := true, laidKinds := [.data, .data, .data, .data, .listed, .data, .pinned], laidTests := true, laidLooks := .later }
def ScriptReadsCardSaid : Prop := Claim7.holds Tryz.pinned (.plain (OpenSpec.ofChange scriptReadsSpec)) scriptReadsCard

/-- THE TIED CARD OF 'tidegatelaw40.ScriptEscapes'. -/
def scriptEscapesCard : Claim7 := { stood := { row := scriptEscapesRow, standIns := [], harness := (true, "242ef4524514621c0e0b0a28a797e2907b47cb3084d9589f3e6457bb8c20c825"), looks := false }, kinds := [], alts := [], laidByText := true, laidKinds := [.data, .data, .data, .data, .listed, .data, .pinned], laidTests := true, laidLooks := .later }
def ScriptEscapesCardSaid : Prop := Claim7.holds Tryz.pinned (.plain (OpenSpec.ofChange scriptEscapesSpec)) scriptEscapesCard

/-- THE TIED CARD OF 'tidegatelaw40.ScriptShows'. -/
def scriptShowsCard : Claim7 := { stood := { row := scriptShowsRow, standIns := [], harness := (true, "242ef4524514621c0e0b0a28a797e2907b47cb3084d9589f3e6457bb8c20c825"), looks := false }, kinds := [], alts := [], laidByText := true, laidKinds := [.data, .data, .data, .data, .listed, .data, .pinned], laidTests := true, laidLooks := .later }
def ScriptShowsCardSaid : Prop := Claim7.holds Tryz.pinned (.plain (OpenSpec.ofChange scriptShowsSpec)) scriptShowsCard

/-- THE TIED CARD OF 'tidegatelaw40.ScriptTold'. -/
def scriptToldCard : Claim7 := { stood := { row := scriptToldRow, standIns := [], harness := (true, "242ef4524514621c0e0b0a28a797e2907b47cb3084d9589f3e6457bb8c20c825"), looks := false }, kinds := [], alts := [], laidByText := true, laidKinds := [.data, .data, .data, .data, .listed, .data, .pinned], laidTests := true, laidLooks := .later }
def ScriptToldCardSaid : Prop := Claim7.holds Tryz.pinned (.plain (OpenSpec.ofChange scriptToldSpec)) scriptToldCard

/-- THE TIED CARD OF 'tidegatelaw40.ScriptLong'. -/
def scriptLongCard : Claim7 := { stood := { row := scriptLongRow, standIns := [], harness := (true, "242ef4524514621c0e0b0a28a797e2907b47cb3084d9589f3e6457bb8c20c825"), looks := false }, kinds := [], alts := [], laidByText := true, laidKinds := [.data, .data, .data, .data, .listed, .data, .pinned], laidTests := true, laidLooks := .later }
def ScriptLongCardSaid : Prop := Claim7.holds Tryz.pinned (.plain (OpenSpec.ofChange scriptLongSpec)) scriptLongCard

/-- THE TIED CARD OF 'tidegatelaw40.ScriptPrints'. -/
def scriptPrintsCard : Claim7 := { stood := { row := scriptPrintsRow, standIns := [], harness := (true, "242ef4524514621c0e0b0a28a797e2907b47cb3084d9589f3e6457bb8c20c825"), looks := false }, kinds := [], alts := [], laidByText := true, laidKinds := [.data, .data, .data, .data, .listed, .data, .pinned], laidTests := true, laidLooks := .later }
def ScriptPrintsCardSaid : Prop := Claim7.holds Tryz.pinned (.plain (OpenSpec.ofChange scriptPrintsSpec)) scriptPrintsCard

/-- THE SECOND FORM's CARD OF 'tidegatelaw40.ScriptReads'. -/
def scriptReadsUptoCard : Claim7 := { stood := { row := scriptReadsUptoRow, standIns := [], harness := (true, "242ef4524514621c0e0b0a28a797e2907b47cb3084d9589f3e6457bb8c20c825"), looks := false }, kinds := [], alts := [], laidByText := true, laidKinds := [.data, .data, .data, .data, .listed, .data, .pinned], laidTests := true, laidLooks := .later }
def ScriptReadsUptoCardSaid : Prop := Claim7.holds Tryz.pinned (.plain (OpenSpec.upto scriptReadsSpec)) scriptReadsUptoCard

/-- THE SECOND FORM's CARD OF 'tidegatelaw40.ScriptEscapes'. -/
def scriptEscapesUptoCard : Claim7 := { stood := { row := scriptEscapesUptoRow, standIns := [], harness := (true, "242ef4524514621c0e0b0a28a797e2907b47cb3084d9589f3e6457bb8c20c825"), looks := false }, kinds := [], alts := [], laidByText := true, laidKinds := [.data, .data, .data, .data, .listed, .data, .pinned], laidTests := true, laidLooks := .later }
def ScriptEscapesUptoCardSaid : Prop := Claim7.holds Tryz.pinned (.plain (OpenSpec.upto scriptEscapesSpec)) scriptEscapesUptoCard

/-- THE SECOND FORM's CARD OF 'tidegatelaw40.ScriptShows'. -/
def scriptShowsUptoCard : Claim7 := { stood := { row := scriptShowsUptoRow, standIns := [], harness := (true, "242ef4524514621c0e0b0a28a797e2907b47cb3084d9589f3e6457bb8c20c825"), looks := false }, kinds := [], alts := [], laidByText := true, laidKinds := [.data, .data, .data, .data, .listed, .data, .pinned], laidTests := true, laidLooks := .later }
def ScriptShowsUptoCardSaid : Prop := Claim7.holds Tryz.pinned (.plain (OpenSpec.upto scriptShowsSpec)) scriptShowsUptoCard

/-- THE SECOND FORM's CARD OF 'tidegatelaw40.ScriptTold'. -/
def scriptToldUptoCard : Claim7 := { stood := { row := scriptToldUptoRow, standIns := [], harness := (true, "242ef4524514621c0e0b0a28a797e2907b47cb3084d9589f3e6457bb8c20c825"), looks := false }, kinds := [], alts := [], laidByText := true, laidKinds := [.data, .data, .data, .data, .listed, .data, .pinned], laidTests := true, laidLooks := .later }
def ScriptToldUptoCardSaid : Prop := Claim7.holds Tryz.pinned (.plain (OpenSpec.upto scriptToldSpec)) scriptToldUptoCard

/-- THE SECOND FORM's CARD OF 'tidegatelaw40.ScriptLong'. -/
def scriptLongUptoCard : Claim7 := { stood := { row := scriptLongUptoRow, standIns := [], harness := (true, "242ef4524514621c0e0b0a28a797e2907b47cb3084d9589f3e6457bb8c20c825"), looks := false }, kinds := [], alts := [], laidByText := true, laidKinds := [.data, .data, .data, .data, .listed, .data, .pinned], laidTests := true, laidLooks := .later }
def ScriptLongUptoCardSaid : Prop := Claim7.holds Tryz.pinned (.plain (OpenSpec.upto scriptLongSpec)) scriptLongUptoCard

/-- THE SECOND FORM's CARD OF 'tidegatelaw40.ScriptPrints'. -/
def scriptPrintsUptoCard : Claim7 := { stood := { row := scriptPrintsUptoRow, standIns := [], harness := (true, "242ef4524514621c0e0b0a28a797e2907b47cb3084d9589f3e6457bb8c20c825"), looks := false }, kinds := [], alts := [], laidByText := true, laidKinds := [.data, .data, .data, .data, .listed, .data, .pinned], laidTests := true, laidLooks := .later }
def ScriptPrintsUptoCardSaid : Prop := Claim7.holds Tryz.pinned (.plain (OpenSpec.upto scriptPrintsSpec)) scriptPrintsUptoCard
end Rows
end Go.Proofs.YthgcgjpbhbikaaaGreatDoor
