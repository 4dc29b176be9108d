/-
  DERIVED. GIVEN WITH THE SEED: THE CARDS: each row of YtbeoilidocfofaaGreatDoorRows.lean that lists a variable, with what it lists TIED to the program's text (the seventh form; the later family's looks); each row that meets fmt, with fmt's text TOLD by the authors' own Lean function (tested against real Go, not proved from fmt's source: count such statements apart). THE CARD IS WHAT COUNTS. Prove the row's statement (the work); the ties are given (YtbeoilidocfofaaGreatDoorTie.lean); close each card by the builder's one call (the guide's Derived/Test/ToyasCard.lean, 'card_holds'). Laid BY PROGRAM, IN A SANDBOX (cutbox-door.mjs). By AI agents, Wed Nov 11 2026. No macro, syntax, notation, axiom, sorry.
-/
import Derived.Test.YtbeoilidocfofaaGreatDoorRows
import GoSem.ClaimSeven
namespace Go.Proofs.YtbeoilidocfofaaGreatDoor
namespace Rows

/-- THE TIED CARD OF 'tidegatelaw36.ClassifyStays'. -/
def classifyStaysCard : Claim7 := { stood := { row := classifyStaysRow, standIns := [], harness := (true, "91e0afe17776c86955c5574f0f5e8b24854a4a2522fb0930330b2cf11b558dea"), looks := true }, kinds := [], alts := [], laidByText := true, laidKinds := [.data, .listed, .data, .pinned], laidTests := true, laidLooks := .later }
def ClassifyStaysCardSaid : Prop := Claim7.holds Tryz.pinned (.plain (OpenSpec.ofChange classifyStaysSpec)) classifyStaysCard

/-- THE TIED CARD OF 'tidegatelaw36.ClassifyPoint'. -/
def classifyPointCard : Claim7 := { stood := { row := classifyPointRow, standIns := [], harness := (true, "91e0afe17776c86955c5574f0f5e8b24854a4a2522fb0930330b2cf11b558dea"), looks := true }, kinds := [], alts := [], laidByText := true, laidKinds := [.data, .listed, .data, .pinned], laidTests := true, laidLooks := .later }
def ClassifyPointCardSaid : Prop := Claim7.holds Tryz.pinned (.plain (OpenSpec.ofChange classifyPointSpec)) classifyPointCard

/-- THE SECOND FORM's CARD OF 'tidegatelaw36.ClassifyStays'. -/
def classifyStaysUptoCard : Claim7 := { stood := { row := classifyStaysUptoRow, standIns := [], harness := (true, "91e0afe17776c86955c5574f0f5e8b24854a4a2522fb0930330b2cf11b558dea"), looks := true }, kinds := [], alts := [], laidByText := true, laidKinds := [.data, .listed, .data, .pinned], laidTests := true, laidLooks := .later }
def ClassifyStaysUptoCardSaid : Prop := Claim7.holds Tryz.pinned (.plain (OpenSpec.upto classifyStaysSpec)) classifyStaysUptoCard

/-- THE SECOND FORM's CARD OF 'tidegatelaw36.ClassifyPoint'. -/
def classifyPointUptoCard : Claim7 := { stood := { row := classifyPointUptoRow, standIns := [], harness := (true, "91e0afe17776c86955c5574f0f5e8b24854a4a2522fb0930330b2cf11b558dea"), looks := true }, kinds := [], alts := [], laidByText := true, laidKinds := [.data, .listed, .data, .pinned], laidTests := true, laidLooks := .later }
def ClassifyPointUptoCardSaid : Prop := Claim7.holds Tryz.pinned (.plain (OpenSpec.upto classifyPointSpec)) classifyPointUptoCard
end Rows
end Go.Proofs.YtbeoilidocfofaaGreatDoor
