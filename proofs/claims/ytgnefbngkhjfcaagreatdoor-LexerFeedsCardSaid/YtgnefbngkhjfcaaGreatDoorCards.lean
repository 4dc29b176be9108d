/-
  DERIVED. GIVEN WITH THE SEED: THE CARDS: each row of YtgnefbngkhjfcaaGreatDoorRows.lean that lists a variable, with what it lists TIED to the program's text (the seventh form; the later family's looks); each row that meets fmt, with fmt's text TOLD by the authors' own Lean function (tested against real Go, not proved from fmt's source: count such statements apart). THE CARD IS WHAT COUNTS. Prove the row's statement (the work); the ties are given (YtgnefbngkhjfcaaGreatDoorTie.lean); close each card by the builder's one call (the guide's Derived/Test/ToyasCard.lean, 'card_holds'). Laid BY PROGRAM, IN A SANDBOX (cutbox-door.mjs). By AI agents, Wed Nov 11 2026. No macro, syntax, notation, axiom, sorry.
-/
import Derived.Test.YtgnefbngkhjfcaaGreatDoorRows
import GoSem.ClaimSeven
namespace Go.Proofs.YtgnefbngkhjfcaaGreatDoor
namespace Rows

/-- THE TIED CARD OF 'tidegatelaw29.LexerWhole'. -/
def lexerWholeCard : Claim7 := { stood := { row := lexerWholeRow, standIns := [], harness := (true, "c6ee99536b422b625077ca99d36b0af8e4e164a5e5412a637d481ad63a4bfc31"), looks := false }, kinds := [], alts := [], laidByText := true, laidKinds := [.listed, .data], laidTests := true, laidLooks := .later }
def LexerWholeCardSaid : Prop := Claim7.holds Tryz.pinned (.plain (OpenSpec.ofChange lexerWholeSpec)) lexerWholeCard

/-- THE TIED CARD OF 'tidegatelaw32.OrbparseOf'. -/
def orbparseOfCard : Claim7 := { stood := { row := orbparseOfRow, standIns := [], harness := (true, "c6ee99536b422b625077ca99d36b0af8e4e164a5e5412a637d481ad63a4bfc31"), looks := false }, kinds := [], alts := [], laidByText := true, laidKinds := [.listed, .data], laidTests := true, laidLooks := .later }
def OrbparseOfCardSaid : Prop := Claim7.holds Tryz.pinned (.plain (OpenSpec.ofChange orbparseOfSpec)) orbparseOfCard

/-- THE TIED CARD OF 'tidegatelaw29.LexerFeeds'. -/
def lexerFeedsCard : Claim7 := { stood := { row := lexerFeedsRow, standIns := [], harness := (true, "c6ee99536b422b625077ca99d36b0af8e4e164a5e5412a637d481ad63a4bfc31"), looks := false }, kinds := [], alts := [], laidByText := true, laidKinds := [.listed, .data], laidTests := true, laidLooks := .later }
def LexerFeedsCardSaid : Prop := Claim7.holds Tryz.pinned (.plain (OpenSpec.ofChange lexerFeedsSpec)) lexerFeedsCard

/-- THE SECOND FORM's CARD OF 'tidegatelaw29.LexerWhole'. -/
def lexerWholeUptoCard : Claim7 := { stood := { row := lexerWholeUptoRow, standIns := [], harness := (true, "c6ee99536b422b625077ca99d36b0af8e4e164a5e5412a637d481ad63a4bfc31"), looks := false }, kinds := [], alts := [], laidByText := true, laidKinds := [.listed, .data], laidTests := true, laidLooks := .later }
def LexerWholeUptoCardSaid : Prop := Claim7.holds Tryz.pinned (.plain (OpenSpec.upto lexerWholeSpec)) lexerWholeUptoCard

/-- THE SECOND FORM's CARD OF 'tidegatelaw32.OrbparseOf'. -/
def orbparseOfUptoCard : Claim7 := { stood := { row := orbparseOfUptoRow, standIns := [], harness := (true, "c6ee99536b422b625077ca99d36b0af8e4e164a5e5412a637d481ad63a4bfc31"), looks := false }, kinds := [], alts := [], laidByText := true, laidKinds := [.listed, .data], laidTests := true, laidLooks := .later }
def OrbparseOfUptoCardSaid : Prop := Claim7.holds Tryz.pinned (.plain (OpenSpec.upto orbparseOfSpec)) orbparseOfUptoCard

/-- THE SECOND FORM's CARD OF 'tidegatelaw29.LexerFeeds'. -/
def lexerFeedsUptoCard : Claim7 := { stood := { row := lexerFeedsUptoRow, standIns := [], harness := (true, "c6ee99536b422b625077ca99d36b0af8e4e164a5e5412a637d481ad63a4bfc31"), looks := false }, kinds := [], alts := [], laidByText := true, laidKinds := [.listed, .data], laidTests := true, laidLooks := .later }
def LexerFeedsUptoCardSaid : Prop := Claim7.holds Tryz.pinned (.plain (OpenSpec.upto lexerFeedsSpec)) lexerFeedsUptoCard
end Rows
end Go.Proofs.YtgnefbngkhjfcaaGreatDoor
