/-
  DERIVED. GIVEN WITH THE SEED: THE CARDS: each row of YtjplaockjmhnjaaGreatDoorRows.lean that lists a variable, with what it lists TIED to the program's text (the seventh form; the later family's looks); each row that meets fmt, with fmt's text TOLD by the authors' own Lean function (tested against real Go, not proved from fmt's source: count such statements apart). THE CARD IS WHAT COUNTS. Prove the row's statement (the work); the ties are given (YtjplaockjmhnjaaGreatDoorTie.lean); close each card by the builder's one call (the guide's Derived/Test/ToyasCard.lean, 'card_holds'). Laid BY PROGRAM, IN A SANDBOX (cutbox-door.mjs). By AI agents, Wed Nov 11 2026. No macro, syntax, notation, axiom, sorry.
-/
import Derived.Test.YtjplaockjmhnjaaGreatDoorRows
import GoSem.ClaimSeven
namespace Go.Proofs.YtjplaockjmhnjaaGreatDoor
namespace Rows

/-- THE TIED CARD OF 'tidegatelaw31.OrbsniffOf'. -/
def orbsniffOfCard : Claim7 := { stood := { row := orbsniffOfRow, standIns := [], harness := (true, "82122c40e8f0acab2d569c620c62fdc4b7a78606d1060abc8b805c09cc86b348"), looks := true }, kinds := [], alts := [], laidByText := true, laidKinds := [.listed, .data], laidTests := true, laidLooks := .later }
def OrbsniffOfCardSaid : Prop := Claim7.holds Tryz.pinned (.plain (OpenSpec.ofChange orbsniffOfSpec)) orbsniffOfCard

/-- THE TIED CARD OF 'tidegatelaw31.OrbsniffMedia'. -/
def orbsniffMediaCard : Claim7 := { stood := { row := orbsniffMediaRow, standIns := [], harness := (true, "82122c40e8f0acab2d569c620c62fdc4b7a78606d1060abc8b805c09cc86b348"), looks := true }, kinds := [], alts := [], laidByText := true, laidKinds := [.listed, .data], laidTests := true, laidLooks := .later }
def OrbsniffMediaCardSaid : Prop := Claim7.holds Tryz.pinned (.plain (OpenSpec.ofChange orbsniffMediaSpec)) orbsniffMediaCard

/-- THE TIED CARD OF 'tidegatelaw33.CorbFree'. -/
def corbFreeCard : Claim7 := { stood := { row := corbFreeRow, standIns := [], harness := (true, "82122c40e8f0acab2d569c620c62fdc4b7a78606d1060abc8b805c09cc86b348"), looks := true }, kinds := [], alts := [], laidByText := true, laidKinds := [.data, .listed, .data, .pinned], laidTests := true, laidLooks := .later }
def CorbFreeCardSaid : Prop := Claim7.holds Tryz.pinned (.plain (OpenSpec.ofChange corbFreeSpec)) corbFreeCard

/-- THE TIED CARD OF 'tidegatelaw33.CorbHead'. -/
def corbHeadCard : Claim7 := { stood := { row := corbHeadRow, standIns := [], harness := (true, "82122c40e8f0acab2d569c620c62fdc4b7a78606d1060abc8b805c09cc86b348"), looks := true }, kinds := [], alts := [], laidByText := true, laidKinds := [.data, .listed, .data, .pinned], laidTests := true, laidLooks := .later }
def CorbHeadCardSaid : Prop := Claim7.holds Tryz.pinned (.plain (OpenSpec.ofChange corbHeadSpec)) corbHeadCard

/-- THE SECOND FORM's CARD OF 'tidegatelaw31.OrbsniffOf'. -/
def orbsniffOfUptoCard : Claim7 := { stood := { row := orbsniffOfUptoRow, standIns := [], harness := (true, "82122c40e8f0acab2d569c620c62fdc4b7a78606d1060abc8b805c09cc86b348"), looks := true }, kinds := [], alts := [], laidByText := true, laidKinds := [.listed, .data], laidTests := true, laidLooks := .later }
def OrbsniffOfUptoCardSaid : Prop := Claim7.holds Tryz.pinned (.plain (OpenSpec.upto orbsniffOfSpec)) orbsniffOfUptoCard

/-- THE SECOND FORM's CARD OF 'tidegatelaw31.OrbsniffMedia'. -/
def orbsniffMediaUptoCard : Claim7 := { stood := { row := orbsniffMediaUptoRow, standIns := [], harness := (true, "82122c40e8f0acab2d569c620c62fdc4b7a78606d1060abc8b805c09cc86b348"), looks := true }, kinds := [], alts := [], laidByText := true, laidKinds := [.listed, .data], laidTests := true, laidLooks := .later }
def OrbsniffMediaUptoCardSaid : Prop := Claim7.holds Tryz.pinned (.plain (OpenSpec.upto orbsniffMediaSpec)) orbsniffMediaUptoCard

/-- THE SECOND FORM's CARD OF 'tidegatelaw33.CorbFree'. -/
def corbFreeUptoCard : Claim7 := { stood := { row := corbFreeUptoRow, standIns := [], harness := (true, "82122c40e8f0acab2d569c620c62fdc4b7a78606d1060abc8b805c09cc86b348"), looks := true }, kinds := [], alts := [], laidByText := true, laidKinds := [.data, .listed, .data, .pinned], laidTests := true, laidLooks := .later }
def CorbFreeUptoCardSaid : Prop := Claim7.holds Tryz.pinned (.plain (OpenSpec.upto corbFreeSpec)) corbFreeUptoCard

/-- THE SECOND FORM's CARD OF 'tidegatelaw33.CorbHead'. -/
def corbHeadUptoCard : Claim7 := { stood := { row := corbHeadUptoRow, standIns := [], harness := (true, "82122c40e8f0acab2d569c620c62fdc4b7a78606d1060abc8b805c09cc86b348"), looks := true }, kinds := [], alts := [], laidByText := true, laidKinds := [.data, .listed, .data, .pinned], laidTests := true, laidLooks := .later }
def CorbHeadUptoCardSaid : Prop := Claim7.holds Tryz.pinned (.plain (OpenSpec.upto corbHeadSpec)) corbHeadUptoCard
end Rows
end Go.Proofs.YtjplaockjmhnjaaGreatDoor
