/-
  DERIVED. GIVEN WITH THE SEED: THE CARDS: each row of YtombmblgmbjieaaGreatDoorRows.lean that lists a variable, with what it lists TIED to the program's text (the seventh form; the later family's looks); each row that meets fmt, with fmt's text TOLD by the authors' own Lean function (tested against real Go, not proved from fmt's source: count such statements apart). THE CARD IS WHAT COUNTS. Prove the row's statement (the work); the ties are given (YtombmblgmbjieaaGreatDoorTie.lean); close each card by the builder's one call (the guide's Derived/Test/ToyasCard.lean, 'card_holds'). Laid BY PROGRAM, IN A SANDBOX (cutbox-door.mjs). By AI agents, Wed Nov 11 2026. No macro, syntax, notation, axiom, sorry.
-/
import Derived.Test.YtombmblgmbjieaaGreatDoorRows
import GoSem.ClaimSeven
namespace Go.Proofs.YtombmblgmbjieaaGreatDoor
namespace Rows

/-- THE TIED CARD OF 'tidegatelaw20.UnknownTypes'. -/
def unknownTypesCard : Claim7 := { stood := { row := unknownTypesRow, standIns := [], harness := (true, "bdfa4a08aec8236afd00658604fbeb7ccd8c2158731da02ca6a9ac69c8523aa6"), looks := true }, kinds := [], alts := [], laidByText := true, laidKinds := [.data, .pinned], laidTests := true, laidLooks := .later }
def UnknownTypesCardSaid : Prop := Claim7.holds Tryz.pinned (.plain (OpenSpec.ofChange unknownTypesSpec)) unknownTypesCard

/-- THE TIED CARD OF 'tidegatelaw20.UnknownMedia'. -/
def unknownMediaCard : Claim7 := { stood := { row := unknownMediaRow, standIns := [], harness := (true, "bdfa4a08aec8236afd00658604fbeb7ccd8c2158731da02ca6a9ac69c8523aa6"), looks := true }, kinds := [], alts := [], laidByText := true, laidKinds := [.data, .pinned], laidTests := true, laidLooks := .later }
def UnknownMediaCardSaid : Prop := Claim7.holds Tryz.pinned (.plain (OpenSpec.ofChange unknownMediaSpec)) unknownMediaCard

/-- THE TIED CARD OF 'tidegatelaw20.UnknownTexts'. -/
def unknownTextsCard : Claim7 := { stood := { row := unknownTextsRow, standIns := [], harness := (true, "bdfa4a08aec8236afd00658604fbeb7ccd8c2158731da02ca6a9ac69c8523aa6"), looks := true }, kinds := [], alts := [], laidByText := true, laidKinds := [.data, .pinned], laidTests := true, laidLooks := .later }
def UnknownTextsCardSaid : Prop := Claim7.holds Tryz.pinned (.plain (OpenSpec.ofChange unknownTextsSpec)) unknownTextsCard

/-- THE TIED CARD OF 'tidegatelaw20.UnknownTags'. -/
def unknownTagsCard : Claim7 := { stood := { row := unknownTagsRow, standIns := [], harness := (true, "bdfa4a08aec8236afd00658604fbeb7ccd8c2158731da02ca6a9ac69c8523aa6"), looks := true }, kinds := [], alts := [], laidByText := true, laidKinds := [.data, .pinned], laidTests := true, laidLooks := .later }
def UnknownTagsCardSaid : Prop := Claim7.holds Tryz.pinned (.plain (OpenSpec.ofChange unknownTagsSpec)) unknownTagsCard

/-- THE TIED CARD OF 'tidegatelaw21.SniffTypes'. -/
def sniffTypesCard : Claim7 := { stood := { row := sniffTypesRow, standIns := [], harness := (true, "bdfa4a08aec8236afd00658604fbeb7ccd8c2158731da02ca6a9ac69c8523aa6"), looks := true }, kinds := [], alts := [], laidByText := true, laidKinds := [.data, .listed, .data, .pinned], laidTests := true, laidLooks := .later }
def SniffTypesCardSaid : Prop := Claim7.holds Tryz.pinned (.plain (OpenSpec.ofChange sniffTypesSpec)) sniffTypesCard

/-- THE TIED CARD OF 'tidegatelaw21.SniffStays'. -/
def sniffStaysCard : Claim7 := { stood := { row := sniffStaysRow, standIns := [], harness := (true, "bdfa4a08aec8236afd00658604fbeb7ccd8c2158731da02ca6a9ac69c8523aa6"), looks := true }, kinds := [], alts := [], laidByText := true, laidKinds := [.data, .listed, .data, .pinned], laidTests := true, laidLooks := .later }
def SniffStaysCardSaid : Prop := Claim7.holds Tryz.pinned (.plain (OpenSpec.ofChange sniffStaysSpec)) sniffStaysCard

/-- THE TIED CARD OF 'tidegatelaw21.SniffParts'. -/
def sniffPartsCard : Claim7 := { stood := { row := sniffPartsRow, standIns := [], harness := (true, "bdfa4a08aec8236afd00658604fbeb7ccd8c2158731da02ca6a9ac69c8523aa6"), looks := true }, kinds := [], alts := [], laidByText := true, laidKinds := [.data, .listed, .data, .pinned], laidTests := true, laidLooks := .later }
def SniffPartsCardSaid : Prop := Claim7.holds Tryz.pinned (.plain (OpenSpec.ofChange sniffPartsSpec)) sniffPartsCard

/-- THE TIED CARD OF 'tidegatelaw31.OrbsniffOf'. -/
def orbsniffOfCard : Claim7 := { stood := { row := orbsniffOfRow, standIns := [], harness := (true, "bdfa4a08aec8236afd00658604fbeb7ccd8c2158731da02ca6a9ac69c8523aa6"), looks := true }, kinds := [], alts := [], laidByText := true, laidKinds := [.listed, .data], laidTests := true, laidLooks := .later }
def OrbsniffOfCardSaid : Prop := Claim7.holds Tryz.pinned (.plain (OpenSpec.ofChange orbsniffOfSpec)) orbsniffOfCard

/-- THE TIED CARD OF 'tidegatelaw31.OrbsniffMedia'. -/
def orbsniffMediaCard : Claim7 := { stood := { row := orbsniffMediaRow, standIns := [], harness := (true, "bdfa4a08aec8236afd00658604fbeb7ccd8c2158731da02ca6a9ac69c8523aa6"), looks := true }, kinds := [], alts := [], laidByText := true, laidKinds := [.listed, .data], laidTests := true, laidLooks := .later }
def OrbsniffMediaCardSaid : Prop := Claim7.holds Tryz.pinned (.plain (OpenSpec.ofChange orbsniffMediaSpec)) orbsniffMediaCard

/-- THE TIED CARD OF 'tidegatelaw31.OrbsniffParts'. -/
def orbsniffPartsCard : Claim7 := { stood := { row := orbsniffPartsRow, standIns := [], harness := (true, "bdfa4a08aec8236afd00658604fbeb7ccd8c2158731da02ca6a9ac69c8523aa6"), looks := true }, kinds := [], alts := [], laidByText := true, laidKinds := [.data, .listed, .data, .pinned], laidTests := true, laidLooks := .later }
def OrbsniffPartsCardSaid : Prop := Claim7.holds Tryz.pinned (.plain (OpenSpec.ofChange orbsniffPartsSpec)) orbsniffPartsCard

/-- THE SECOND FORM's CARD OF 'tidegatelaw20.UnknownTypes'. -/
def unknownTypesUptoCard : Claim7 := { stood := { row := unknownTypesUptoRow, standIns := [], harness := (true, "bdfa4a08aec8236afd00658604fbeb7ccd8c2158731da02ca6a9ac69c8523aa6"), looks := true }, kinds := [], alts := [], laidByText := true, laidKinds := [.data, .pinned], laidTests := true, laidLooks := .later }
def UnknownTypesUptoCardSaid : Prop := Claim7.holds Tryz.pinned (.plain (OpenSpec.upto unknownTypesSpec)) unknownTypesUptoCard

/-- THE SECOND FORM's CARD OF 'tidegatelaw20.UnknownMedia'. -/
def unknownMediaUptoCard : Claim7 := { stood := { row := unknownMediaUptoRow, standIns := [], harness := (true, "bdfa4a08aec8236afd00658604fbeb7ccd8c2158731da02ca6a9ac69c8523aa6"), looks := true }, kinds := [], alts := [], laidByText := true, laidKinds := [.data, .pinned], laidTests := true, laidLooks := .later }
def UnknownMediaUptoCardSaid : Prop := Claim7.holds Tryz.pinned (.plain (OpenSpec.upto unknownMediaSpec)) unknownMediaUptoCard

/-- THE SECOND FORM's CARD OF 'tidegatelaw20.UnknownTexts'. -/
def unknownTextsUptoCard : Claim7 := { stood := { row := unknownTextsUptoRow, standIns := [], harness := (true, "bdfa4a08aec8236afd00658604fbeb7ccd8c2158731da02ca6a9ac69c8523aa6"), looks := true }, kinds := [], alts := [], laidByText := true, laidKinds := [.data, .pinned], laidTests := true, laidLooks := .later }
def UnknownTextsUptoCardSaid : Prop := Claim7.holds Tryz.pinned (.plain (OpenSpec.upto unknownTextsSpec)) unknownTextsUptoCard

/-- THE SECOND FORM's CARD OF 'tidegatelaw20.UnknownTags'. -/
def unknownTagsUptoCard : Claim7 := { stood := { row := unknownTagsUptoRow, standIns := [], harness := (true, "bdfa4a08aec8236afd00658604fbeb7ccd8c2158731da02ca6a9ac69c8523aa6"), looks := true }, kinds := [], alts := [], laidByText := true, laidKinds := [.data, .pinned], laidTests := true, laidLooks := .later }
def UnknownTagsUptoCardSaid : Prop := Claim7.holds Tryz.pinned (.plain (OpenSpec.upto unknownTagsSpec)) unknownTagsUptoCard

/-- THE SECOND FORM's CARD OF 'tidegatelaw21.SniffTypes'. -/
def sniffTypesUptoCard : Claim7 := { stood := { row := sniffTypesUptoRow, standIns := [], harness := (true, "bdfa4a08aec8236afd00658604fbeb7ccd8c2158731da02ca6a9ac69c8523aa6"), looks := true }, kinds := [], alts := [], laidByText := true, laidKinds := [.data, .listed, .data, .pinned], laidTests := true, laidLooks := .later }
def SniffTypesUptoCardSaid : Prop := Claim7.holds Tryz.pinned (.plain (OpenSpec.upto sniffTypesSpec)) sniffTypesUptoCard

/-- THE SECOND FORM's CARD OF 'tidegatelaw21.SniffStays'. -/
def sniffStaysUptoCard : Claim7 := { stood := { row := sniffStaysUptoRow, standIns := [], harness := (true, "bdfa4a08aec8236afd00658604fbeb7ccd8c2158731da02ca6a9ac69c8523aa6"), looks := true }, kinds := [], alts := [], laidByText := true, laidKinds := [.data, .listed, .data, .pinned], laidTests := true, laidLooks := .later }
def SniffStaysUptoCardSaid : Prop := Claim7.holds Tryz.pinned (.plain (OpenSpec.upto sniffStaysSpec)) sniffStaysUptoCard

/-- THE SECOND FORM's CARD OF 'tidegatelaw21.SniffParts'. -/
def sniffPartsUptoCard : Claim7 := { stood := { row := sniffPartsUptoRow, standIns := [], harness := (true, "bdfa4a08aec8236afd00658604fbeb7ccd8c2158731da02ca6a9ac69c8523aa6"), looks := true }, kinds := [], alts := [], laidByText := true, laidKinds := [.data, .listed, .data, .pinned], laidTests := true, laidLooks := .later }
def SniffPartsUptoCardSaid : Prop := Claim7.holds Tryz.pinned (.plain (OpenSpec.upto sniffPartsSpec)) sniffPartsUptoCard

/-- THE SECOND FORM's CARD OF 'tidegatelaw31.OrbsniffOf'. -/
def orbsniffOfUptoCard : Claim7 := { stood := { row := orbsniffOfUptoRow, standIns := [], harness := (true, "bdfa4a08aec8236afd00658604fbeb7ccd8c2158731da02ca6a9ac69c8523aa6"), looks := true }, kinds := [], alts := [], laidByText := true, laidKinds := [.listed, .data], laidTests := true, laidLooks := .later }
def OrbsniffOfUptoCardSaid : Prop := Claim7.holds Tryz.pinned (.plain (OpenSpec.upto orbsniffOfSpec)) orbsniffOfUptoCard

/-- THE SECOND FORM's CARD OF 'tidegatelaw31.OrbsniffMedia'. -/
def orbsniffMediaUptoCard : Claim7 := { stood := { row := orbsniffMediaUptoRow, standIns := [], harness := (true, "bdfa4a08aec8236afd00658604fbeb7ccd8c2158731da02ca6a9ac69c8523aa6"), looks := true }, kinds := [], alts := [], laidByText := true, laidKinds := [.listed, .data], laidTests := true, laidLooks := .later }
def OrbsniffMediaUptoCardSaid : Prop := Claim7.holds Tryz.pinned (.plain (OpenSpec.upto orbsniffMediaSpec)) orbsniffMediaUptoCard

/-- THE SECOND FORM's CARD OF 'tidegatelaw31.OrbsniffParts'. -/
def orbsniffPartsUptoCard : Claim7 := { stood := { row := orbsniffPartsUptoRow, standIns := [], harness := (true, "bdfa4a08aec8236afd00658604fbeb7ccd8c2158731da02ca6a9ac69c8523aa6"), looks := true }, kinds := [], alts := [], laidByText := true, laidKinds := [.data, .listed, .data, .pinned], laidTests := true, laidLooks := .later }
def OrbsniffPartsUptoCardSaid : Prop := Claim7.holds Tryz.pinned (.plain (OpenSpec.upto orbsniffPartsSpec)) orbsniffPartsUptoCard
end Rows
end Go.Proofs.YtombmblgmbjieaaGreatDoor
