/-
  NARROWER THAN 'FOR EVERY INPUT', by the rows' own cells (each row's printed sentence says how): UnknownTypes: laid · UnknownMedia: laid · UnknownTexts: laid · UnknownTags: laid · SniffTypes: laid · SniffStays: laid · SniffParts: laid · OrbsniffOf: laid · OrbsniffMedia: laid · OrbsniffParts: laid.
  DERIVED. THE GIVEN ROWS OF THIS SEAT. 10 by the template 'for every input the law returns true; each argument reads behind the call as it read before'; 0 by the template 'total and deterministic' (their statements: YtombmblgmbjieaaGreatDoorTotals.lean).
  GIVEN WITH THE SEED: the statements are not yours to turn. If you find one false, say at which input.
  Laid BY PROGRAM, IN A SANDBOX (cutbox-rows.mjs): the forced cells as the released guide's own fill.sh prints them over the translation 9dfa43f09cee47af… (all of the seat's roots in one cut). By AI agents, Wed Nov 11 2026. No macro, syntax, notation, axiom, sorry.
-/
import Derived.Test.YtombmblgmbjieaaGreatDoorChecked
import GoSem.PinnedTables
import GoSem.Claim
import GoSem.ClaimJoined
import GoSem.ClaimMapViews
import Derived.JoinedTies
import Derived.KernelRfl
namespace Go.Proofs.YtombmblgmbjieaaGreatDoor
/- THE CELL 'sum', in the pinned program and in every row, IS THE sha256 OF THE DUMP (.gsa) THAT YtombmblgmbjieaaGreatDoorProg.lean LOADS. Nothing in Lean hashes anything: it is a label: what it is worth is what the hold of that sum in a sandbox is worth. -/
noncomputable def Tryz.pinned : Pinned := { name := "ytombmblgmbjieaagreatdoor", sum := "9dfa43f09cee47af26f0919f985d756812d3c2e4a38549e160cbc3a9030ff631", checked := Tryz.checked }
namespace Rows
def none {H : Type} : Left H := { results := [], args := [] }

/- WHAT THE LISTED PACKAGE-LEVEL VARIABLES READ AS WHEN THE CALL BEGINS. Each datum BY PROGRAM (the guide's laid-datum.mjs) off the statement by which the dump's own 'gosem.cut.vars' lays the variable. In a bare row this is a premise. The card (YtombmblgmbjieaaGreatDoorCards.lean) ties it to the program's text. -/
def laid_unicode_utf8_acceptRanges {H : Type} : DataW H := .agg [.agg [.lit (.int .u8 128), .lit (.int .u8 191)], .agg [.lit (.int .u8 160), .lit (.int .u8 191)], .agg [.lit (.int .u8 128), .lit (.int .u8 159)], .agg [.lit (.int .u8 144), .lit (.int .u8 191)], .agg [.lit (.int .u8 128), .lit (.int .u8 143)], .agg [.lit (.int .u8 0), .lit (.int .u8 0)], .agg [.lit (.int .u8 0), .lit (.int .u8 0)], .agg [.lit (.int .u8 0), .lit (.int .u8 0)], .agg [.lit (.int .u8 0), .lit (.int .u8 0)], .agg [.lit (.int .u8 0), .lit (.int .u8 0)], .agg [.lit (.int .u8 0), .lit (.int .u8 0)], .agg [.lit (.int .u8 0), .lit (.int .u8 0)], .agg [.lit (.int .u8 0), .lit (.int .u8 0)], .agg [.lit (.int .u8 0), .lit (.int .u8 0)], .agg [.lit (.int .u8 0), .lit (.int .u8 0)], .agg [.lit (.int .u8 0), .lit (.int .u8 0)]]
/-- One of Go's own tables, pinned by name: the form's constant. -/
def laid_unicode_utf8_first : DataW Unit := Go.Pinned.utf8First
def laid_unicode_White_Space {H : Type} : DataW H := .ptr (.agg [.slice [.agg [.lit (.int .u16 9), .lit (.int .u16 13), .lit (.int .u16 1)], .agg [.lit (.int .u16 32), .lit (.int .u16 133), .lit (.int .u16 101)], .agg [.lit (.int .u16 160), .lit (.int .u16 5760), .lit (.int .u16 5600)], .agg [.lit (.int .u16 8192), .lit (.int .u16 8202), .lit (.int .u16 1)], .agg [.lit (.int .u16 8232), .lit (.int .u16 8233), .lit (.int .u16 1)], .agg [.lit (.int .u16 8239), .lit (.int .u16 8287), .lit (.int .u16 48)], .agg [.lit (.int .u16 12288), .lit (.int .u16 12288), .lit (.int .u16 1)]] [], .nil, .lit (.int .i64 2)])
def laid_strings_asciiSpace {H : Type} : DataW H := .agg [.lit (.int .u8 0), .lit (.int .u8 0), .lit (.int .u8 0), .lit (.int .u8 0), .lit (.int .u8 0), .lit (.int .u8 0), .lit (.int .u8 0), .lit (.int .u8 0), .lit (.int .u8 0), .lit (.int .u8 1), .lit (.int .u8 1), .lit (.int .u8 1), .lit (.int .u8 1), .lit (.int .u8 1), .lit (.int .u8 0), .lit (.int .u8 0), .lit (.int .u8 0), .lit (.int .u8 0), .lit (.int .u8 0), .lit (.int .u8 0), .lit (.int .u8 0), .lit (.int .u8 0), .lit (.int .u8 0), .lit (.int .u8 0), .lit (.int .u8 0), .lit (.int .u8 0), .lit (.int .u8 0), .lit (.int .u8 0), .lit (.int .u8 0), .lit (.int .u8 0), .lit (.int .u8 0), .lit (.int .u8 0), .lit (.int .u8 1), .lit (.int .u8 0), .lit (.int .u8 0), .lit (.int .u8 0), .lit (.int .u8 0), .lit (.int .u8 0), .lit (.int .u8 0), .lit (.int .u8 0), .lit (.int .u8 0), .lit (.int .u8 0), .lit (.int .u8 0), .lit (.int .u8 0), .lit (.int .u8 0), .lit (.int .u8 0), .lit (.int .u8 0), .lit (.int .u8 0), .lit (.int .u8 0), .lit (.int .u8 0), .lit (.int .u8 0), .lit (.int .u8 0), .lit (.int .u8 0), .lit (.int .u8 0), .lit (.int .u8 0), .lit (.int .u8 0), .lit (.int .u8 0), .lit (.int .u8 0), .lit (.int .u8 0), .lit (.int .u8 0), .lit (.int .u8 0), .lit (.int .u8 0), .lit (.int .u8 0), .lit (.int .u8 0), .lit (.int .u8 0), .lit (.int .u8 0), .lit (.int .u8 0), .lit (.int .u8 0), .lit (.int .u8 0), .lit (.int .u8 0), .lit (.int .u8 0), .lit (.int .u8 0), .lit (.int .u8 0), .lit (.int .u8 0), .lit (.int .u8 0), .lit (.int .u8 0), .lit (.int .u8 0), .lit (.int .u8 0), .lit (.int .u8 0), .lit (.int .u8 0), .lit (.int .u8 0), .lit (.int .u8 0), .lit (.int .u8 0), .lit (.int .u8 0), .lit (.int .u8 0), .lit (.int .u8 0), .lit (.int .u8 0), .lit (.int .u8 0), .lit (.int .u8 0), .lit (.int .u8 0), .lit (.int .u8 0), .lit (.int .u8 0), .lit (.int .u8 0), .lit (.int .u8 0), .lit (.int .u8 0), .lit (.int .u8 0), .lit (.int .u8 0), .lit (.int .u8 0), .lit (.int .u8 0), .lit (.int .u8 0), .lit (.int .u8 0), .lit (.int .u8 0), .lit (.int .u8 0), .lit (.int .u8 0), .lit (.int .u8 0), .lit (.int .u8 0), .lit (.int .u8 0), .lit (.int .u8 0), .lit (.int .u8 0), .lit (.int .u8 0), .lit (.int .u8 0), .lit (.int .u8 0), .lit (.int .u8 0), .lit (.int .u8 0), .lit (.int .u8 0), .lit (.int .u8 0), .lit (.int .u8 0), .lit (.int .u8 0), .lit (.int .u8 0), .lit (.int .u8 0), .lit (.int .u8 0), .lit (.int .u8 0), .lit (.int .u8 0), .lit (.int .u8 0), .lit (.int .u8 0), .lit (.int .u8 0), .lit (.int .u8 0), .lit (.int .u8 0), .lit (.int .u8 0), .lit (.int .u8 0), .lit (.int .u8 0), .lit (.int .u8 0), .lit (.int .u8 0), .lit (.int .u8 0), .lit (.int .u8 0), .lit (.int .u8 0), .lit (.int .u8 0), .lit (.int .u8 0), .lit (.int .u8 0), .lit (.int .u8 0), .lit (.int .u8 0), .lit (.int .u8 0), .lit (.int .u8 0), .lit (.int .u8 0), .lit (.int .u8 0), .lit (.int .u8 0), .lit (.int .u8 0), .lit (.int .u8 0), .lit (.int .u8 0), .lit (.int .u8 0), .lit (.int .u8 0), .lit (.int .u8 0), .lit (.int .u8 0), .lit (.int .u8 0), .lit (.int .u8 0), .lit (.int .u8 0), .lit (.int .u8 0), .lit (.int .u8 0), .lit (.int .u8 0), .lit (.int .u8 0), .lit (.int .u8 0), .lit (.int .u8 0), .lit (.int .u8 0), .lit (.int .u8 0), .lit (.int .u8 0), .lit (.int .u8 0), .lit (.int .u8 0), .lit (.int .u8 0), .lit (.int .u8 0), .lit (.int .u8 0), .lit (.int .u8 0), .lit (.int .u8 0), .lit (.int .u8 0), .lit (.int .u8 0), .lit (.int .u8 0), .lit (.int .u8 0), .lit (.int .u8 0), .lit (.int .u8 0), .lit (.int .u8 0), .lit (.int .u8 0), .lit (.int .u8 0), .lit (.int .u8 0), .lit (.int .u8 0), .lit (.int .u8 0), .lit (.int .u8 0), .lit (.int .u8 0), .lit (.int .u8 0), .lit (.int .u8 0), .lit (.int .u8 0), .lit (.int .u8 0), .lit (.int .u8 0), .lit (.int .u8 0), .lit (.int .u8 0), .lit (.int .u8 0), .lit (.int .u8 0), .lit (.int .u8 0), .lit (.int .u8 0), .lit (.int .u8 0), .lit (.int .u8 0), .lit (.int .u8 0), .lit (.int .u8 0), .lit (.int .u8 0), .lit (.int .u8 0), .lit (.int .u8 0), .lit (.int .u8 0), .lit (.int .u8 0), .lit (.int .u8 0), .lit (.int .u8 0), .lit (.int .u8 0), .lit (.int .u8 0), .lit (.int .u8 0), .lit (.int .u8 0), .lit (.int .u8 0), .lit (.int .u8 0), .lit (.int .u8 0), .lit (.int .u8 0), .lit (.int .u8 0), .lit (.int .u8 0), .lit (.int .u8 0), .lit (.int .u8 0), .lit (.int .u8 0), .lit (.int .u8 0), .lit (.int .u8 0), .lit (.int .u8 0), .lit (.int .u8 0), .lit (.int .u8 0), .lit (.int .u8 0), .lit (.int .u8 0), .lit (.int .u8 0), .lit (.int .u8 0), .lit (.int .u8 0), .lit (.int .u8 0), .lit (.int .u8 0), .lit (.int .u8 0), .lit (.int .u8 0), .lit (.int .u8 0), .lit (.int .u8 0), .lit (.int .u8 0), .lit (.int .u8 0), .lit (.int .u8 0), .lit (.int .u8 0), .lit (.int .u8 0), .lit (.int .u8 0), .lit (.int .u8 0), .lit (.int .u8 0), .lit (.int .u8 0), .lit (.int .u8 0), .lit (.int .u8 0), .lit (.int .u8 0), .lit (.int .u8 0), .lit (.int .u8 0), .lit (.int .u8 0), .lit (.int .u8 0), .lit (.int .u8 0), .lit (.int .u8 0), .lit (.int .u8 0)]

/-- 'tidegatelaw20.UnknownTypes': WHATEVER THE INPUT: true; the input reads as it did. -/
def unknownTypesSpec : ChangeSpec := { name := "unknownTypes", fn := fun _ => fun
  | [d] => { results := [.lit (.bool true)], args := [d] }
  | _ => none }
def unknownTypesRow : OpenClaim := { program := "ytombmblgmbjieaagreatdoor", sum := "9dfa43f09cee47af26f0919f985d756812d3c2e4a38549e160cbc3a9030ff631", func := "tidegate/tidegatelaw20.UnknownTypes", spec := "unknownTypes", inPlace := ["internal/bytealg.IndexByteString", "internal/bytealg.CountString", "internal/bytealg.IndexString", "internal/abi.NoEscape", "internal/bytealg.MakeNoZero"], unfollowed := true, recurses := true, named := ["unicode/utf8.first", "unicode/utf8.acceptRanges", "internal/bytealg.MaxLen"], apart := false, laid := [("unicode/utf8.acceptRanges", laid_unicode_utf8_acceptRanges), ("unicode/utf8.first", laid_unicode_utf8_first)] }
def UnknownTypesSaid : Prop := unknownTypesRow.holds Tryz.pinned (OpenSpec.ofChange unknownTypesSpec)

/-- ITS FALSE NEIGHBOUR: 'it returns false'. Refute it at one input. -/
def unknownTypesWrong : ChangeSpec := { name := "unknownTypes", fn := fun _ => fun
  | [d] => { results := [.lit (.bool false)], args := [d] }
  | _ => none }
def UnknownTypesWrongFalsely : Prop := unknownTypesRow.holds Tryz.pinned (OpenSpec.ofChange unknownTypesWrong)

/-- 'tidegatelaw20.UnknownMedia': WHATEVER THE INPUT: true; the input reads as it did. -/
def unknownMediaSpec : ChangeSpec := { name := "unknownMedia", fn := fun _ => fun
  | [d] => { results := [.lit (.bool true)], args := [d] }
  | _ => none }
def unknownMediaRow : OpenClaim := { program := "ytombmblgmbjieaagreatdoor", sum := "9dfa43f09cee47af26f0919f985d756812d3c2e4a38549e160cbc3a9030ff631", func := "tidegate/tidegatelaw20.UnknownMedia", spec := "unknownMedia", inPlace := ["internal/bytealg.IndexByteString", "internal/bytealg.CountString", "internal/bytealg.IndexString", "internal/abi.NoEscape", "internal/bytealg.MakeNoZero"], unfollowed := true, recurses := true, named := ["unicode/utf8.first", "unicode/utf8.acceptRanges", "internal/bytealg.MaxLen"], apart := false, laid := [("unicode/utf8.acceptRanges", laid_unicode_utf8_acceptRanges), ("unicode/utf8.first", laid_unicode_utf8_first)] }
def UnknownMediaSaid : Prop := unknownMediaRow.holds Tryz.pinned (OpenSpec.ofChange unknownMediaSpec)

/-- ITS FALSE NEIGHBOUR: 'it returns false'. Refute it at one input. -/
def unknownMediaWrong : ChangeSpec := { name := "unknownMedia", fn := fun _ => fun
  | [d] => { results := [.lit (.bool false)], args := [d] }
  | _ => none }
def UnknownMediaWrongFalsely : Prop := unknownMediaRow.holds Tryz.pinned (OpenSpec.ofChange unknownMediaWrong)

/-- 'tidegatelaw20.UnknownTexts': WHATEVER THE INPUT: true; the input reads as it did. -/
def unknownTextsSpec : ChangeSpec := { name := "unknownTexts", fn := fun _ => fun
  | [d] => { results := [.lit (.bool true)], args := [d] }
  | _ => none }
def unknownTextsRow : OpenClaim := { program := "ytombmblgmbjieaagreatdoor", sum := "9dfa43f09cee47af26f0919f985d756812d3c2e4a38549e160cbc3a9030ff631", func := "tidegate/tidegatelaw20.UnknownTexts", spec := "unknownTexts", inPlace := ["internal/bytealg.IndexByteString", "internal/bytealg.CountString", "internal/bytealg.IndexString", "internal/abi.NoEscape", "internal/bytealg.MakeNoZero"], unfollowed := true, recurses := true, named := ["unicode/utf8.first", "unicode/utf8.acceptRanges", "internal/bytealg.MaxLen"], apart := false, laid := [("unicode/utf8.acceptRanges", laid_unicode_utf8_acceptRanges), ("unicode/utf8.first", laid_unicode_utf8_first)] }
def UnknownTextsSaid : Prop := unknownTextsRow.holds Tryz.pinned (OpenSpec.ofChange unknownTextsSpec)

/-- ITS FALSE NEIGHBOUR: 'it returns false'. Refute it at one input. -/
def unknownTextsWrong : ChangeSpec := { name := "unknownTexts", fn := fun _ => fun
  | [d] => { results := [.lit (.bool false)], args := [d] }
  | _ => none }
def UnknownTextsWrongFalsely : Prop := unknownTextsRow.holds Tryz.pinned (OpenSpec.ofChange unknownTextsWrong)

/-- 'tidegatelaw20.UnknownTags': WHATEVER THE INPUT: true; the input reads as it did. -/
def unknownTagsSpec : ChangeSpec := { name := "unknownTags", fn := fun _ => fun
  | [d1, d2] => { results := [.lit (.bool true)], args := [d1, d2] }
  | _ => none }
def unknownTagsRow : OpenClaim := { program := "ytombmblgmbjieaagreatdoor", sum := "9dfa43f09cee47af26f0919f985d756812d3c2e4a38549e160cbc3a9030ff631", func := "tidegate/tidegatelaw20.UnknownTags", spec := "unknownTags", inPlace := ["internal/bytealg.CountString", "internal/bytealg.IndexByteString", "internal/bytealg.IndexString", "internal/abi.NoEscape", "internal/bytealg.MakeNoZero"], unfollowed := true, recurses := true, named := ["unicode/utf8.first", "unicode/utf8.acceptRanges", "internal/bytealg.MaxLen"], apart := false, laid := [("unicode/utf8.acceptRanges", laid_unicode_utf8_acceptRanges), ("unicode/utf8.first", laid_unicode_utf8_first)] }
def UnknownTagsSaid : Prop := unknownTagsRow.holds Tryz.pinned (OpenSpec.ofChange unknownTagsSpec)

/-- ITS FALSE NEIGHBOUR: 'it returns false'. Refute it at one input. -/
def unknownTagsWrong : ChangeSpec := { name := "unknownTags", fn := fun _ => fun
  | [d1, d2] => { results := [.lit (.bool false)], args := [d1, d2] }
  | _ => none }
def UnknownTagsWrongFalsely : Prop := unknownTagsRow.holds Tryz.pinned (OpenSpec.ofChange unknownTagsWrong)

/-- 'tidegatelaw21.SniffTypes': WHATEVER THE INPUT: true; the input reads as it did. -/
def sniffTypesSpec : ChangeSpec := { name := "sniffTypes", fn := fun _ => fun
  | [d1, d2] => { results := [.lit (.bool true)], args := [d1, d2] }
  | _ => none }
def sniffTypesRow : OpenClaim := { program := "ytombmblgmbjieaagreatdoor", sum := "9dfa43f09cee47af26f0919f985d756812d3c2e4a38549e160cbc3a9030ff631", func := "tidegate/tidegatelaw21.SniffTypes", spec := "sniffTypes", inPlace := ["internal/bytealg.IndexByteString", "internal/bytealg.CountString", "internal/bytealg.IndexString", "internal/abi.NoEscape", "internal/bytealg.MakeNoZero"], unfollowed := true, recurses := true, named := ["unicode/utf8.first", "unicode/utf8.acceptRanges", "internal/bytealg.MaxLen", "strings.asciiSpace", "unicode.White_Space"], apart := false, laid := [("unicode/utf8.acceptRanges", laid_unicode_utf8_acceptRanges), ("unicode.White_Space", laid_unicode_White_Space), ("strings.asciiSpace", laid_strings_asciiSpace), ("unicode/utf8.first", laid_unicode_utf8_first)] }
def SniffTypesSaid : Prop := sniffTypesRow.holds Tryz.pinned (OpenSpec.ofChange sniffTypesSpec)

/-- ITS FALSE NEIGHBOUR: 'it returns false'. Refute it at one input. -/
def sniffTypesWrong : ChangeSpec := { name := "sniffTypes", fn := fun _ => fun
  | [d1, d2] => { results := [.lit (.bool false)], args := [d1, d2] }
  | _ => none }
def SniffTypesWrongFalsely : Prop := sniffTypesRow.holds Tryz.pinned (OpenSpec.ofChange sniffTypesWrong)

/-- 'tidegatelaw21.SniffStays': WHATEVER THE INPUT: true; the input reads as it did. -/
def sniffStaysSpec : ChangeSpec := { name := "sniffStays", fn := fun _ => fun
  | [d1, d2] => { results := [.lit (.bool true)], args := [d1, d2] }
  | _ => none }
def sniffStaysRow : OpenClaim := { program := "ytombmblgmbjieaagreatdoor", sum := "9dfa43f09cee47af26f0919f985d756812d3c2e4a38549e160cbc3a9030ff631", func := "tidegate/tidegatelaw21.SniffStays", spec := "sniffStays", inPlace := ["internal/bytealg.IndexByteString", "internal/bytealg.CountString", "internal/bytealg.IndexString", "internal/abi.NoEscape", "internal/bytealg.MakeNoZero"], unfollowed := true, recurses := true, named := ["unicode/utf8.first", "unicode/utf8.acceptRanges", "internal/bytealg.MaxLen", "strings.asciiSpace", "unicode.White_Space"], apart := false, laid := [("unicode/utf8.acceptRanges", laid_unicode_utf8_acceptRanges), ("unicode.White_Space", laid_unicode_White_Space), ("strings.asciiSpace", laid_strings_asciiSpace), ("unicode/utf8.first", laid_unicode_utf8_first)] }
def SniffStaysSaid : Prop := sniffStaysRow.holds Tryz.pinned (OpenSpec.ofChange sniffStaysSpec)

/-- ITS FALSE NEIGHBOUR: 'it returns false'. Refute it at one input. -/
def sniffStaysWrong : ChangeSpec := { name := "sniffStays", fn := fun _ => fun
  | [d1, d2] => { results := [.lit (.bool false)], args := [d1, d2] }
  | _ => none }
def SniffStaysWrongFalsely : Prop := sniffStaysRow.holds Tryz.pinned (OpenSpec.ofChange sniffStaysWrong)

/-- 'tidegatelaw21.SniffParts': WHATEVER THE INPUT: true; the input reads as it did. -/
def sniffPartsSpec : ChangeSpec := { name := "sniffParts", fn := fun _ => fun
  | [d1, d2] => { results := [.lit (.bool true)], args := [d1, d2] }
  | _ => none }
def sniffPartsRow : OpenClaim := { program := "ytombmblgmbjieaagreatdoor", sum := "9dfa43f09cee47af26f0919f985d756812d3c2e4a38549e160cbc3a9030ff631", func := "tidegate/tidegatelaw21.SniffParts", spec := "sniffParts", inPlace := ["internal/abi.NoEscape", "internal/bytealg.MakeNoZero", "internal/bytealg.IndexByteString", "internal/bytealg.CountString", "internal/bytealg.IndexString"], unfollowed := true, recurses := true, named := ["unicode/utf8.first", "unicode/utf8.acceptRanges", "internal/bytealg.MaxLen", "strings.asciiSpace", "unicode.White_Space"], apart := false, laid := [("unicode/utf8.acceptRanges", laid_unicode_utf8_acceptRanges), ("unicode.White_Space", laid_unicode_White_Space), ("strings.asciiSpace", laid_strings_asciiSpace), ("unicode/utf8.first", laid_unicode_utf8_first)] }
def SniffPartsSaid : Prop := sniffPartsRow.holds Tryz.pinned (OpenSpec.ofChange sniffPartsSpec)

/-- ITS FALSE NEIGHBOUR: 'it returns false'. Refute it at one input. -/
def sniffPartsWrong : ChangeSpec := { name := "sniffParts", fn := fun _ => fun
  | [d1, d2] => { results := [.lit (.bool false)], args := [d1, d2] }
  | _ => none }
def SniffPartsWrongFalsely : Prop := sniffPartsRow.holds Tryz.pinned (OpenSpec.ofChange sniffPartsWrong)

/-- 'tidegatelaw31.OrbsniffOf': WHATEVER THE INPUT: true; the input reads as it did. -/
def orbsniffOfSpec : ChangeSpec := { name := "orbsniffOf", fn := fun _ => fun
  | [d1, d2, d3] => { results := [.lit (.bool true)], args := [d1, d2, d3] }
  | _ => none }
def orbsniffOfRow : OpenClaim := { program := "ytombmblgmbjieaagreatdoor", sum := "9dfa43f09cee47af26f0919f985d756812d3c2e4a38549e160cbc3a9030ff631", func := "tidegate/tidegatelaw31.OrbsniffOf", spec := "orbsniffOf", inPlace := ["internal/abi.NoEscape", "internal/bytealg.MakeNoZero", "internal/bytealg.IndexByteString"], unfollowed := true, recurses := true, named := ["strings.asciiSpace", "unicode.White_Space"], apart := false, laid := [("unicode.White_Space", laid_unicode_White_Space), ("strings.asciiSpace", laid_strings_asciiSpace)] }
def OrbsniffOfSaid : Prop := orbsniffOfRow.holds Tryz.pinned (OpenSpec.ofChange orbsniffOfSpec)

/-- ITS FALSE NEIGHBOUR: 'it returns false'. Refute it at one input. -/
def orbsniffOfWrong : ChangeSpec := { name := "orbsniffOf", fn := fun _ => fun
  | [d1, d2, d3] => { results := [.lit (.bool false)], args := [d1, d2, d3] }
  | _ => none }
def OrbsniffOfWrongFalsely : Prop := orbsniffOfRow.holds Tryz.pinned (OpenSpec.ofChange orbsniffOfWrong)

/-- 'tidegatelaw31.OrbsniffMedia': WHATEVER THE INPUT: true; the input reads as it did. -/
def orbsniffMediaSpec : ChangeSpec := { name := "orbsniffMedia", fn := fun _ => fun
  | [d1, d2, d3] => { results := [.lit (.bool true)], args := [d1, d2, d3] }
  | _ => none }
def orbsniffMediaRow : OpenClaim := { program := "ytombmblgmbjieaagreatdoor", sum := "9dfa43f09cee47af26f0919f985d756812d3c2e4a38549e160cbc3a9030ff631", func := "tidegate/tidegatelaw31.OrbsniffMedia", spec := "orbsniffMedia", inPlace := ["internal/abi.NoEscape", "internal/bytealg.MakeNoZero", "internal/bytealg.IndexByteString"], unfollowed := true, recurses := true, named := ["strings.asciiSpace", "unicode.White_Space"], apart := false, laid := [("unicode.White_Space", laid_unicode_White_Space), ("strings.asciiSpace", laid_strings_asciiSpace)] }
def OrbsniffMediaSaid : Prop := orbsniffMediaRow.holds Tryz.pinned (OpenSpec.ofChange orbsniffMediaSpec)

/-- ITS FALSE NEIGHBOUR: 'it returns false'. Refute it at one input. -/
def orbsniffMediaWrong : ChangeSpec := { name := "orbsniffMedia", fn := fun _ => fun
  | [d1, d2, d3] => { results := [.lit (.bool false)], args := [d1, d2, d3] }
  | _ => none }
def OrbsniffMediaWrongFalsely : Prop := orbsniffMediaRow.holds Tryz.pinned (OpenSpec.ofChange orbsniffMediaWrong)

/-- 'tidegatelaw31.OrbsniffParts': WHATEVER THE INPUT: true; the input reads as it did. -/
def orbsniffPartsSpec : ChangeSpec := { name := "orbsniffParts", fn := fun _ => fun
  | [d1, d2, d3] => { results := [.lit (.bool true)], args := [d1, d2, d3] }
  | _ => none }
def orbsniffPartsRow : OpenClaim := { program := "ytombmblgmbjieaagreatdoor", sum := "9dfa43f09cee47af26f0919f985d756812d3c2e4a38549e160cbc3a9030ff631", func := "tidegate/tidegatelaw31.OrbsniffParts", spec := "orbsniffParts", inPlace := ["internal/bytealg.IndexByteString", "internal/abi.NoEscape", "internal/bytealg.MakeNoZero", "internal/bytealg.CountString", "internal/bytealg.IndexString"], unfollowed := true, recurses := true, named := ["unicode/utf8.first", "unicode/utf8.acceptRanges", "internal/bytealg.MaxLen", "strings.asciiSpace", "unicode.White_Space"], apart := false, laid := [("unicode/utf8.acceptRanges", laid_unicode_utf8_acceptRanges), ("unicode.White_Space", laid_unicode_White_Space), ("strings.asciiSpace", laid_strings_asciiSpace), ("unicode/utf8.first", laid_unicode_utf8_first)] }
def OrbsniffPartsSaid : Prop := orbsniffPartsRow.holds Tryz.pinned (OpenSpec.ofChange orbsniffPartsSpec)

/-- ITS FALSE NEIGHBOUR: 'it returns false'. Refute it at one input. -/
def orbsniffPartsWrong : ChangeSpec := { name := "orbsniffParts", fn := fun _ => fun
  | [d1, d2, d3] => { results := [.lit (.bool false)], args := [d1, d2, d3] }
  | _ => none }
def OrbsniffPartsWrongFalsely : Prop := orbsniffPartsRow.holds Tryz.pinned (OpenSpec.ofChange orbsniffPartsWrong)

/- THE SECOND FORM. 'bulk': how many values and letters a reading holds, each counted each time it is reached (what is shared counts as often as it is met; a slice's spare places count too). A statement '..UptoSaid' is the law's where the arguments, and the package variables that the reading takes, are together of bulk at most 1048576: NARROWER than '..Said'. Prove '..Said' where nothing that the law and all that it calls make is longer than what came in: it says more and counts as full. Else prove '..UptoSaid'. A law counts once. -/
mutual
def uptoBulk {H : Type} : DataW H → Nat
  | .lit (.string bytes) => bytes.length + 1
  | .lit _ => 1
  | .nil => 1
  | .ptr d => uptoBulk d + 1
  | .slice elems spare => uptoBulkAll elems + uptoBulkAll spare + 1
  | .agg parts => uptoBulkAll parts + 1
  | .iface _ d => uptoBulk d + 1
  | .map entries => uptoBulkEntries entries + 1
  | .held _ => 1
def uptoBulkAll {H : Type} : List (DataW H) → Nat
  | [] => 0
  | d :: r => uptoBulk d + uptoBulkAll r
def uptoBulkEntries {H : Type} : List (Lit × DataW H) → Nat
  | [] => 0
  | x :: r => uptoBulkEntry x + uptoBulkEntries r
def uptoBulkEntry {H : Type} : Lit × DataW H → Nat
  | (.string bytes, d) => bytes.length + uptoBulk d + 1
  | (_, d) => uptoBulk d + 1
 end
def uptoSmall : (H : Type) → List (DataW H) → Bool := fun _ ds => decide (uptoBulkAll ds ≤ 1048576)
def OpenSpec.upto (s : _root_.Go.ChangeSpec) : _root_.Go.OpenSpec := { _root_.Go.OpenSpec.ofChange s with cond := some uptoSmall }

/-- 'tidegatelaw20.UnknownTypes', WHERE WHAT IT READS IS OF BULK AT MOST 1048576: true; the input reads as it did. -/
def unknownTypesUptoRow : OpenClaim := { program := "ytombmblgmbjieaagreatdoor", sum := "9dfa43f09cee47af26f0919f985d756812d3c2e4a38549e160cbc3a9030ff631", func := "tidegate/tidegatelaw20.UnknownTypes", spec := "unknownTypes", inPlace := ["internal/bytealg.IndexByteString", "internal/bytealg.CountString", "internal/bytealg.IndexString", "internal/abi.NoEscape", "internal/bytealg.MakeNoZero"], unfollowed := true, recurses := true, named := ["unicode/utf8.first", "unicode/utf8.acceptRanges", "internal/bytealg.MaxLen"], apart := false, laid := [("unicode/utf8.acceptRanges", laid_unicode_utf8_acceptRanges), ("unicode/utf8.first", laid_unicode_utf8_first)], narrowed := true }
def UnknownTypesUptoSaid : Prop := unknownTypesUptoRow.holds Tryz.pinned (OpenSpec.upto unknownTypesSpec)

/-- 'tidegatelaw20.UnknownMedia', WHERE WHAT IT READS IS OF BULK AT MOST 1048576: true; the input reads as it did. -/
def unknownMediaUptoRow : OpenClaim := { program := "ytombmblgmbjieaagreatdoor", sum := "9dfa43f09cee47af26f0919f985d756812d3c2e4a38549e160cbc3a9030ff631", func := "tidegate/tidegatelaw20.UnknownMedia", spec := "unknownMedia", inPlace := ["internal/bytealg.IndexByteString", "internal/bytealg.CountString", "internal/bytealg.IndexString", "internal/abi.NoEscape", "internal/bytealg.MakeNoZero"], unfollowed := true, recurses := true, named := ["unicode/utf8.first", "unicode/utf8.acceptRanges", "internal/bytealg.MaxLen"], apart := false, laid := [("unicode/utf8.acceptRanges", laid_unicode_utf8_acceptRanges), ("unicode/utf8.first", laid_unicode_utf8_first)], narrowed := true }
def UnknownMediaUptoSaid : Prop := unknownMediaUptoRow.holds Tryz.pinned (OpenSpec.upto unknownMediaSpec)

/-- 'tidegatelaw20.UnknownTexts', WHERE WHAT IT READS IS OF BULK AT MOST 1048576: true; the input reads as it did. -/
def unknownTextsUptoRow : OpenClaim := { program := "ytombmblgmbjieaagreatdoor", sum := "9dfa43f09cee47af26f0919f985d756812d3c2e4a38549e160cbc3a9030ff631", func := "tidegate/tidegatelaw20.UnknownTexts", spec := "unknownTexts", inPlace := ["internal/bytealg.IndexByteString", "internal/bytealg.CountString", "internal/bytealg.IndexString", "internal/abi.NoEscape", "internal/bytealg.MakeNoZero"], unfollowed := true, recurses := true, named := ["unicode/utf8.first", "unicode/utf8.acceptRanges", "internal/bytealg.MaxLen"], apart := false, laid := [("unicode/utf8.acceptRanges", laid_unicode_utf8_acceptRanges), ("unicode/utf8.first", laid_unicode_utf8_first)], narrowed := true }
def UnknownTextsUptoSaid : Prop := unknownTextsUptoRow.holds Tryz.pinned (OpenSpec.upto unknownTextsSpec)

/-- 'tidegatelaw20.UnknownTags', WHERE WHAT IT READS IS OF BULK AT MOST 1048576: true; the input reads as it did. -/
def unknownTagsUptoRow : OpenClaim := { program := "ytombmblgmbjieaagreatdoor", sum := "9dfa43f09cee47af26f0919f985d756812d3c2e4a38549e160cbc3a9030ff631", func := "tidegate/tidegatelaw20.UnknownTags", spec := "unknownTags", inPlace := ["internal/bytealg.CountString", "internal/bytealg.IndexByteString", "internal/bytealg.IndexString", "internal/abi.NoEscape", "internal/bytealg.MakeNoZero"], unfollowed := true, recurses := true, named := ["unicode/utf8.first", "unicode/utf8.acceptRanges", "internal/bytealg.MaxLen"], apart := false, laid := [("unicode/utf8.acceptRanges", laid_unicode_utf8_acceptRanges), ("unicode/utf8.first", laid_unicode_utf8_first)], narrowed := true }
def UnknownTagsUptoSaid : Prop := unknownTagsUptoRow.holds Tryz.pinned (OpenSpec.upto unknownTagsSpec)

/-- 'tidegatelaw21.SniffTypes', WHERE WHAT IT READS IS OF BULK AT MOST 1048576: true; the input reads as it did. -/
def sniffTypesUptoRow : OpenClaim := { program := "ytombmblgmbjieaagreatdoor", sum := "9dfa43f09cee47af26f0919f985d756812d3c2e4a38549e160cbc3a9030ff631", func := "tidegate/tidegatelaw21.SniffTypes", spec := "sniffTypes", inPlace := ["internal/bytealg.IndexByteString", "internal/bytealg.CountString", "internal/bytealg.IndexString", "internal/abi.NoEscape", "internal/bytealg.MakeNoZero"], unfollowed := true, recurses := true, named := ["unicode/utf8.first", "unicode/utf8.acceptRanges", "internal/bytealg.MaxLen", "strings.asciiSpace", "unicode.White_Space"], apart := false, laid := [("unicode/utf8.acceptRanges", laid_unicode_utf8_acceptRanges), ("unicode.White_Space", laid_unicode_White_Space), ("strings.asciiSpace", laid_strings_asciiSpace), ("unicode/utf8.first", laid_unicode_utf8_first)], narrowed := true }
def SniffTypesUptoSaid : Prop := sniffTypesUptoRow.holds Tryz.pinned (OpenSpec.upto sniffTypesSpec)

/-- 'tidegatelaw21.SniffStays', WHERE WHAT IT READS IS OF BULK AT MOST 1048576: true; the input reads as it did. -/
def sniffStaysUptoRow : OpenClaim := { program := "ytombmblgmbjieaagreatdoor", sum := "9dfa43f09cee47af26f0919f985d756812d3c2e4a38549e160cbc3a9030ff631", func := "tidegate/tidegatelaw21.SniffStays", spec := "sniffStays", inPlace := ["internal/bytealg.IndexByteString", "internal/bytealg.CountString", "internal/bytealg.IndexString", "internal/abi.NoEscape", "internal/bytealg.MakeNoZero"], unfollowed := true, recurses := true, named := ["unicode/utf8.first", "unicode/utf8.acceptRanges", "internal/bytealg.MaxLen", "strings.asciiSpace", "unicode.White_Space"], apart := false, laid := [("unicode/utf8.acceptRanges", laid_unicode_utf8_acceptRanges), ("unicode.White_Space", laid_unicode_White_Space), ("strings.asciiSpace", laid_strings_asciiSpace), ("unicode/utf8.first", laid_unicode_utf8_first)], narrowed := true }
def SniffStaysUptoSaid : Prop := sniffStaysUptoRow.holds Tryz.pinned (OpenSpec.upto sniffStaysSpec)

/-- 'tidegatelaw21.SniffParts', WHERE WHAT IT READS IS OF BULK AT MOST 1048576: true; the input reads as it did. -/
def sniffPartsUptoRow : OpenClaim := { program := "ytombmblgmbjieaagreatdoor", sum := "9dfa43f09cee47af26f0919f985d756812d3c2e4a38549e160cbc3a9030ff631", func := "tidegate/tidegatelaw21.SniffParts", spec := "sniffParts", inPlace := ["internal/abi.NoEscape", "internal/bytealg.MakeNoZero", "internal/bytealg.IndexByteString", "internal/bytealg.CountString", "internal/bytealg.IndexString"], unfollowed := true, recurses := true, named := ["unicode/utf8.first", "unicode/utf8.acceptRanges", "internal/bytealg.MaxLen", "strings.asciiSpace", "unicode.White_Space"], apart := false, laid := [("unicode/utf8.acceptRanges", laid_unicode_utf8_acceptRanges), ("unicode.White_Space", laid_unicode_White_Space), ("strings.asciiSpace", laid_strings_asciiSpace), ("unicode/utf8.first", laid_unicode_utf8_first)], narrowed := true }
def SniffPartsUptoSaid : Prop := sniffPartsUptoRow.holds Tryz.pinned (OpenSpec.upto sniffPartsSpec)

/-- 'tidegatelaw31.OrbsniffOf', WHERE WHAT IT READS IS OF BULK AT MOST 1048576: true; the input reads as it did. -/
def orbsniffOfUptoRow : OpenClaim := { program := "ytombmblgmbjieaagreatdoor", sum := "9dfa43f09cee47af26f0919f985d756812d3c2e4a38549e160cbc3a9030ff631", func := "tidegate/tidegatelaw31.OrbsniffOf", spec := "orbsniffOf", inPlace := ["internal/abi.NoEscape", "internal/bytealg.MakeNoZero", "internal/bytealg.IndexByteString"], unfollowed := true, recurses := true, named := ["strings.asciiSpace", "unicode.White_Space"], apart := false, laid := [("unicode.White_Space", laid_unicode_White_Space), ("strings.asciiSpace", laid_strings_asciiSpace)], narrowed := true }
def OrbsniffOfUptoSaid : Prop := orbsniffOfUptoRow.holds Tryz.pinned (OpenSpec.upto orbsniffOfSpec)

/-- 'tidegatelaw31.OrbsniffMedia', WHERE WHAT IT READS IS OF BULK AT MOST 1048576: true; the input reads as it did. -/
def orbsniffMediaUptoRow : OpenClaim := { program := "ytombmblgmbjieaagreatdoor", sum := "9dfa43f09cee47af26f0919f985d756812d3c2e4a38549e160cbc3a9030ff631", func := "tidegate/tidegatelaw31.OrbsniffMedia", spec := "orbsniffMedia", inPlace := ["internal/abi.NoEscape", "internal/bytealg.MakeNoZero", "internal/bytealg.IndexByteString"], unfollowed := true, recurses := true, named := ["strings.asciiSpace", "unicode.White_Space"], apart := false, laid := [("unicode.White_Space", laid_unicode_White_Space), ("strings.asciiSpace", laid_strings_asciiSpace)], narrowed := true }
def OrbsniffMediaUptoSaid : Prop := orbsniffMediaUptoRow.holds Tryz.pinned (OpenSpec.upto orbsniffMediaSpec)

/-- 'tidegatelaw31.OrbsniffParts', WHERE WHAT IT READS IS OF BULK AT MOST 1048576: true; the input reads as it did. -/
def orbsniffPartsUptoRow : OpenClaim := { program := "ytombmblgmbjieaagreatdoor", sum := "9dfa43f09cee47af26f0919f985d756812d3c2e4a38549e160cbc3a9030ff631", func := "tidegate/tidegatelaw31.OrbsniffParts", spec := "orbsniffParts", inPlace := ["internal/bytealg.IndexByteString", "internal/abi.NoEscape", "internal/bytealg.MakeNoZero", "internal/bytealg.CountString", "internal/bytealg.IndexString"], unfollowed := true, recurses := true, named := ["unicode/utf8.first", "unicode/utf8.acceptRanges", "internal/bytealg.MaxLen", "strings.asciiSpace", "unicode.White_Space"], apart := false, laid := [("unicode/utf8.acceptRanges", laid_unicode_utf8_acceptRanges), ("unicode.White_Space", laid_unicode_White_Space), ("strings.asciiSpace", laid_strings_asciiSpace), ("unicode/utf8.first", laid_unicode_utf8_first)], narrowed := true }
def OrbsniffPartsUptoSaid : Prop := orbsniffPartsUptoRow.holds Tryz.pinned (OpenSpec.upto orbsniffPartsSpec)

end Rows
end Go.Proofs.YtombmblgmbjieaaGreatDoor
