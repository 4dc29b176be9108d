/-
  DERIVED. GIVEN WITH THE SEED: THE CARDS: each row of YtgnefbngkhjfcaaDoorRows.lean that lists a variable, with what it lists TIED to the program's text (the seventh form; the later family's looks); each row that meets fmt, with fmt's text TOLD by the authors' own Lean function (tested against real Go, not proved from fmt's source: count such statements apart). THE CARD IS WHAT COUNTS. Prove the row's statement (the work); the ties are given (YtgnefbngkhjfcaaDoorTie.lean); close each card by the builder's one call (the guide's Derived/Test/ToyasCard.lean, 'card_holds'). Laid BY PROGRAM, IN A SANDBOX (cutbox-door.mjs). By AI agents, Wed Nov 11 2026. No macro, syntax, notation, axiom, sorry.
-/
import Derived.Test.YtgnefbngkhjfcaaDoorRows
import GoSem.ClaimSeven
namespace Go.Proofs.YtgnefbngkhjfcaaDoor
namespace Rows

/-- THE TIED CARD OF 'tidegatelaw28.JscriptStays'. -/
def jscriptStaysCard : Claim7 := { stood := { row := jscriptStaysRow, standIns := [], harness := (true, "6f33e3a9f3387f5c0e843a41589e0c338f803d24aea300fb8ce98a6c9cac9a3d"), looks := false }, kinds := [], alts := [], laidByText := true, laidKinds := [.listed, .data], laidTests := true, laidLooks := .later }
def JscriptStaysCardSaid : Prop := Claim7.holds Tryd.pinned (.plain (OpenSpec.ofChange jscriptStaysSpec)) jscriptStaysCard

/-- THE TIED CARD OF 'tidegatelaw28.JscriptWords'. -/
def jscriptWordsCard : Claim7 := { stood := { row := jscriptWordsRow, standIns := [], harness := (true, "6f33e3a9f3387f5c0e843a41589e0c338f803d24aea300fb8ce98a6c9cac9a3d"), looks := false }, kinds := [], alts := [], laidByText := true, laidKinds := [.listed, .data], laidTests := true, laidLooks := .later }
def JscriptWordsCardSaid : Prop := Claim7.holds Tryd.pinned (.plain (OpenSpec.ofChange jscriptWordsSpec)) jscriptWordsCard

/-- THE TIED CARD OF 'tidegatelaw28.JscriptNone'. -/
def jscriptNoneCard : Claim7 := { stood := { row := jscriptNoneRow, standIns := [], harness := (true, "6f33e3a9f3387f5c0e843a41589e0c338f803d24aea300fb8ce98a6c9cac9a3d"), looks := false }, kinds := [], alts := [], laidByText := true, laidKinds := [.listed, .data], laidTests := true, laidLooks := .later }
def JscriptNoneCardSaid : Prop := Claim7.holds Tryd.pinned (.plain (OpenSpec.ofChange jscriptNoneSpec)) jscriptNoneCard

/-- THE TIED CARD OF 'tidegatelaw29.LexerJson'. -/
def lexerJsonCard : Claim7 := { stood := { row := lexerJsonRow, standIns := [], harness := (true, "6f33e3a9f3387f5c0e843a41589e0c338f803d24aea300fb8ce98a6c9cac9a3d"), looks := false }, kinds := [], alts := [], laidByText := true, laidKinds := [.listed, .data], laidTests := true, laidLooks := .later }
def LexerJsonCardSaid : Prop := Claim7.holds Tryd.pinned (.plain (OpenSpec.ofChange lexerJsonSpec)) lexerJsonCard

/-- THE TIED CARD OF 'tidegatelaw32.OrbparseLong'. -/
def orbparseLongCard : Claim7 := { stood := { row := orbparseLongRow, standIns := [], harness := (true, "6f33e3a9f3387f5c0e843a41589e0c338f803d24aea300fb8ce98a6c9cac9a3d"), looks := false }, kinds := [], alts := [], laidByText := true, laidKinds := [.listed, .data], laidTests := true, laidLooks := .later }
def OrbparseLongCardSaid : Prop := Claim7.holds Tryd.pinned (.plain (OpenSpec.ofChange orbparseLongSpec)) orbparseLongCard

/-- THE TIED CARD OF 'tidegatelaw29.LexerNone'. -/
def lexerNoneCard : Claim7 := { stood := { row := lexerNoneRow, standIns := [], harness := (true, "6f33e3a9f3387f5c0e843a41589e0c338f803d24aea300fb8ce98a6c9cac9a3d"), looks := false }, kinds := [], alts := [], laidByText := true, laidKinds := [.listed, .data], laidTests := true, laidLooks := .later }
def LexerNoneCardSaid : Prop := Claim7.holds Tryd.pinned (.plain (OpenSpec.ofChange lexerNoneSpec)) lexerNoneCard

/-- THE TIED CARD OF 'tidegatelaw32.OrbparseRules'. -/
def orbparseRulesCard : Claim7 := { stood := { row := orbparseRulesRow, standIns := [], harness := (true, "6f33e3a9f3387f5c0e843a41589e0c338f803d24aea300fb8ce98a6c9cac9a3d"), looks := false }, kinds := [], alts := [], laidByText := true, laidKinds := [.data, .listed, .data, .pinned], laidTests := true, laidLooks := .later }
def OrbparseRulesCardSaid : Prop := Claim7.holds Tryd.pinned (.plain (OpenSpec.ofChange orbparseRulesSpec)) orbparseRulesCard

/-- THE SECOND FORM's CARD OF 'tidegatelaw28.JscriptStays'. -/
def jscriptStaysUptoCard : Claim7 := { stood := { row := jscriptStaysUptoRow, standIns := [], harness := (true, "6f33e3a9f3387f5c0e843a41589e0c338f803d24aea300fb8ce98a6c9cac9a3d"), looks := false }, kinds := [], alts := [], laidByText := true, laidKinds := [.listed, .data], laidTests := true, laidLooks := .later }
def JscriptStaysUptoCardSaid : Prop := Claim7.holds Tryd.pinned (.plain (OpenSpec.upto jscriptStaysSpec)) jscriptStaysUptoCard

/-- THE SECOND FORM's CARD OF 'tidegatelaw28.JscriptWords'. -/
def jscriptWordsUptoCard : Claim7 := { stood := { row := jscriptWordsUptoRow, standIns := [], harness := (true, "6f33e3a9f3387f5c0e843a41589e0c338f803d24aea300fb8ce98a6c9cac9a3d"), looks := false }, kinds := [], alts := [], laidByText := true, laidKinds := [.listed, .data], laidTests := true, laidLooks := .later }
def JscriptWordsUptoCardSaid : Prop := Claim7.holds Tryd.pinned (.plain (OpenSpec.upto jscriptWordsSpec)) jscriptWordsUptoCard

/-- THE SECOND FORM's CARD OF 'tidegatelaw28.JscriptNone'. -/
def jscriptNoneUptoCard : Claim7 := { stood := { row := jscriptNoneUptoRow, standIns := [], harness := (true, "6f33e3a9f3387f5c0e843a41589e0c338f803d24aea300fb8ce98a6c9cac9a3d"), looks := false }, kinds := [], alts := [], laidByText := true, laidKinds := [.listed, .data], laidTests := true, laidLooks := .later }
def JscriptNoneUptoCardSaid : Prop := Claim7.holds Tryd.pinned (.plain (OpenSpec.upto jscriptNoneSpec)) jscriptNoneUptoCard

/-- THE SECOND FORM's CARD OF 'tidegatelaw29.LexerJson'. -/
def lexerJsonUptoCard : Claim7 := { stood := { row := lexerJsonUptoRow, standIns := [], harness := (true, "6f33e3a9f3387f5c0e843a41589e0c338f803d24aea300fb8ce98a6c9cac9a3d"), looks := false }, kinds := [], alts := [], laidByText := true, laidKinds := [.listed, .data], laidTests := true, laidLooks := .later }
def LexerJsonUptoCardSaid : Prop := Claim7.holds Tryd.pinned (.plain (OpenSpec.upto lexerJsonSpec)) lexerJsonUptoCard

/-- THE SECOND FORM's CARD OF 'tidegatelaw32.OrbparseLong'. -/
def orbparseLongUptoCard : Claim7 := { stood := { row := orbparseLongUptoRow, standIns := [], harness := (true, "6f33e3a9f3387f5c0e843a41589e0c338f803d24aea300fb8ce98a6c9cac9a3d"), looks := false }, kinds := [], alts := [], laidByText := true, laidKinds := [.listed, .data], laidTests := true, laidLooks := .later }
def OrbparseLongUptoCardSaid : Prop := Claim7.holds Tryd.pinned (.plain (OpenSpec.upto orbparseLongSpec)) orbparseLongUptoCard

/-- THE SECOND FORM's CARD OF 'tidegatelaw29.LexerNone'. -/
def lexerNoneUptoCard : Claim7 := { stood := { row := lexerNoneUptoRow, standIns := [], harness := (true, "6f33e3a9f3387f5c0e843a41589e0c338f803d24aea300fb8ce98a6c9cac9a3d"), looks := false }, kinds := [], alts := [], laidByText := true, laidKinds := [.listed, .data], laidTests := true, laidLooks := .later }
def LexerNoneUptoCardSaid : Prop := Claim7.holds Tryd.pinned (.plain (OpenSpec.upto lexerNoneSpec)) lexerNoneUptoCard

/-- THE SECOND FORM's CARD OF 'tidegatelaw32.OrbparseRules'. -/
def orbparseRulesUptoCard : Claim7 := { stood := { row := orbparseRulesUptoRow, standIns := [], harness := (true, "6f33e3a9f3387f5c0e843a41589e0c338f803d24aea300fb8ce98a6c9cac9a3d"), looks := false }, kinds := [], alts := [], laidByText := true, laidKinds := [.data, .listed, .data, .pinned], laidTests := true, laidLooks := .later }
def OrbparseRulesUptoCardSaid : Prop := Claim7.holds Tryd.pinned (.plain (OpenSpec.upto orbparseRulesSpec)) orbparseRulesUptoCard
end Rows
end Go.Proofs.YtgnefbngkhjfcaaDoor
