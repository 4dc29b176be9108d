/-
  No cell of these rows narrows 'for every input' (looked for: loops, veiled, ifaces, maps, wideKeys, modest, calm, conditions, laid).
  DERIVED. THE GIVEN ROWS OF THIS SEAT. 4 by the template 'for every input the law returns true; each argument reads behind the call as it read before'; 0 by the template 'total and deterministic' (their statements: YtpelmepidboikaaTotals.lean).
  GIVEN WITH THE SEED: the statements are not yours to turn. If you find one false, say at which input.
  Laid BY PROGRAM, IN A SANDBOX (cutbox-rows.mjs): the forced cells as the released guide's own fill.sh prints them over the translation 92b5dbfe019285b7… (all of the seat's roots in one cut). By AI agents, Wed Nov 11 2026. No macro, syntax, notation, axiom, sorry.
-/
import Derived.Test.YtpelmepidboikaaChecked
import GoSem.Claim
import GoSem.ClaimJoined
import GoSem.ClaimMapViews
import Derived.JoinedTies
import Derived.KernelRfl
namespace Go.Proofs.Ytpelmepidboikaa
/- THE CELL 'sum', in the pinned program and in every row, IS THE sha256 OF THE DUMP (.gsa) THAT YtpelmepidboikaaProg.lean LOADS. Nothing in Lean hashes anything: it is a label: what it is worth is what the hold of that sum in a sandbox is worth. -/
noncomputable def Try.pinned : Pinned := { name := "ytpelmepidboikaa", sum := "92b5dbfe019285b7a3ffe335ba2859345e2250d46c320bd787b1b86ec81bf978", checked := Try.checked }
namespace Rows
def none {H : Type} : Left H := { results := [], args := [] }

/-- 'tidegatelaw27.JsonWhole': WHATEVER THE INPUT: true; the input reads as it did. -/
def jsonWholeSpec : ChangeSpec := { name := "jsonWhole", fn := fun _ => fun
  | [d1, d2] => { results := [.lit (.bool true)], args := [d1, d2] }
  | _ => none }
def jsonWholeRow : OpenClaim := { program := "ytpelmepidboikaa", sum := "92b5dbfe019285b7a3ffe335ba2859345e2250d46c320bd787b1b86ec81bf978", func := "tidegate/tidegatelaw27.JsonWhole", spec := "jsonWhole", inPlace := ["internal/bytealg.IndexByteString"], recurses := true, apart := false }
def JsonWholeSaid : Prop := jsonWholeRow.holds Try.pinned (OpenSpec.ofChange jsonWholeSpec)

/-- ITS FALSE NEIGHBOUR: 'it returns false'. Refute it at one input. -/
def jsonWholeWrong : ChangeSpec := { name := "jsonWhole", fn := fun _ => fun
  | [d1, d2] => { results := [.lit (.bool false)], args := [d1, d2] }
  | _ => none }
def JsonWholeWrongFalsely : Prop := jsonWholeRow.holds Try.pinned (OpenSpec.ofChange jsonWholeWrong)

/-- 'tidegatelaw27.JsonStays': WHATEVER THE INPUT: true; the input reads as it did. -/
def jsonStaysSpec : ChangeSpec := { name := "jsonStays", fn := fun _ => fun
  | [d1, d2, d3] => { results := [.lit (.bool true)], args := [d1, d2, d3] }
  | _ => none }
def jsonStaysRow : OpenClaim := { program := "ytpelmepidboikaa", sum := "92b5dbfe019285b7a3ffe335ba2859345e2250d46c320bd787b1b86ec81bf978", func := "tidegate/tidegatelaw27.JsonStays", spec := "jsonStays", inPlace := ["internal/bytealg.IndexByteString"], apart := false }
def JsonStaysSaid : Prop := jsonStaysRow.holds Try.pinned (OpenSpec.ofChange jsonStaysSpec)

/-- ITS FALSE NEIGHBOUR: 'it returns false'. Refute it at one input. -/
def jsonStaysWrong : ChangeSpec := { name := "jsonStays", fn := fun _ => fun
  | [d1, d2, d3] => { results := [.lit (.bool false)], args := [d1, d2, d3] }
  | _ => none }
def JsonStaysWrongFalsely : Prop := jsonStaysRow.holds Try.pinned (OpenSpec.ofChange jsonStaysWrong)

/-- 'tidegatelaw27.JsonFeeds': WHATEVER THE INPUT: true; the input reads as it did. -/
def jsonFeedsSpec : ChangeSpec := { name := "jsonFeeds", fn := fun _ => fun
  | [d1, d2] => { results := [.lit (.bool true)], args := [d1, d2] }
  | _ => none }
def jsonFeedsRow : OpenClaim := { program := "ytpelmepidboikaa", sum := "92b5dbfe019285b7a3ffe335ba2859345e2250d46c320bd787b1b86ec81bf978", func := "tidegate/tidegatelaw27.JsonFeeds", spec := "jsonFeeds", inPlace := ["internal/bytealg.IndexByteString"], recurses := true, apart := false }
def JsonFeedsSaid : Prop := jsonFeedsRow.holds Try.pinned (OpenSpec.ofChange jsonFeedsSpec)

/-- ITS FALSE NEIGHBOUR: 'it returns false'. Refute it at one input. -/
def jsonFeedsWrong : ChangeSpec := { name := "jsonFeeds", fn := fun _ => fun
  | [d1, d2] => { results := [.lit (.bool false)], args := [d1, d2] }
  | _ => none }
def JsonFeedsWrongFalsely : Prop := jsonFeedsRow.holds Try.pinned (OpenSpec.ofChange jsonFeedsWrong)

/-- 'tidegatelaw27.JsonNone': WHATEVER THE INPUT: true; the input reads as it did. -/
def jsonNoneSpec : ChangeSpec := { name := "jsonNone", fn := fun _ => fun
  | [d] => { results := [.lit (.bool true)], args := [d] }
  | _ => none }
def jsonNoneRow : OpenClaim := { program := "ytpelmepidboikaa", sum := "92b5dbfe019285b7a3ffe335ba2859345e2250d46c320bd787b1b86ec81bf978", func := "tidegate/tidegatelaw27.JsonNone", spec := "jsonNone", inPlace := ["internal/bytealg.IndexByteString"], apart := false }
def JsonNoneSaid : Prop := jsonNoneRow.holds Try.pinned (OpenSpec.ofChange jsonNoneSpec)

/-- ITS FALSE NEIGHBOUR: 'it returns false'. Refute it at one input. -/
def jsonNoneWrong : ChangeSpec := { name := "jsonNone", fn := fun _ => fun
  | [d] => { results := [.lit (.bool false)], args := [d] }
  | _ => none }
def JsonNoneWrongFalsely : Prop := jsonNoneRow.holds Try.pinned (OpenSpec.ofChange jsonNoneWrong)

/- THE SECOND FORM. 'bulk': how many values and letters a reading holds, each counted each time it is reached (what is shared counts as often as it is met; a slice's spare places count too). A statement '..UptoSaid' is the law's where the arguments, and the package variables that the reading takes, are together of bulk at most 1048576: NARROWER than '..Said'. Prove '..Said' where nothing that the law and all that it calls make is longer than what came in: it says more and counts as full. Else prove '..UptoSaid'. A law counts once. -/
mutual
def uptoBulk {H : Type} : DataW H → Nat
  | .lit (.string bytes) => bytes.length + 1
  | .lit _ => 1
  | .nil => 1
  | .ptr d => uptoBulk d + 1
  | .slice elems spare => uptoBulkAll elems + uptoBulkAll spare + 1
  | .agg parts => uptoBulkAll parts + 1
  | .iface _ d => uptoBulk d + 1
  | .map entries => uptoBulkEntries entries + 1
  | .held _ => 1
def uptoBulkAll {H : Type} : List (DataW H) → Nat
  | [] => 0
  | d :: r => uptoBulk d + uptoBulkAll r
def uptoBulkEntries {H : Type} : List (Lit × DataW H) → Nat
  | [] => 0
  | x :: r => uptoBulkEntry x + uptoBulkEntries r
def uptoBulkEntry {H : Type} : Lit × DataW H → Nat
  | (.string bytes, d) => bytes.length + uptoBulk d + 1
  | (_, d) => uptoBulk d + 1
 end
def uptoSmall : (H : Type) → List (DataW H) → Bool := fun _ ds => decide (uptoBulkAll ds ≤ 1048576)
def OpenSpec.upto (s : _root_.Go.ChangeSpec) : _root_.Go.OpenSpec := { _root_.Go.OpenSpec.ofChange s with cond := some uptoSmall }

/-- 'tidegatelaw27.JsonWhole', WHERE WHAT IT READS IS OF BULK AT MOST 1048576: true; the input reads as it did. -/
def jsonWholeUptoRow : OpenClaim := { program := "ytpelmepidboikaa", sum := "92b5dbfe019285b7a3ffe335ba2859345e2250d46c320bd787b1b86ec81bf978", func := "tidegate/tidegatelaw27.JsonWhole", spec := "jsonWhole", inPlace := ["internal/bytealg.IndexByteString"], recurses := true, apart := false, narrowed := true }
def JsonWholeUptoSaid : Prop := jsonWholeUptoRow.holds Try.pinned (OpenSpec.upto jsonWholeSpec)

/-- 'tidegatelaw27.JsonStays', WHERE WHAT IT READS IS OF BULK AT MOST 1048576: true; the input reads as it did. -/
def jsonStaysUptoRow : OpenClaim := { program := "ytpelmepidboikaa", sum := "92b5dbfe019285b7a3ffe335ba2859345e2250d46c320bd787b1b86ec81bf978", func := "tidegate/tidegatelaw27.JsonStays", spec := "jsonStays", inPlace := ["internal/bytealg.IndexByteString"], apart := false, narrowed := true }
def JsonStaysUptoSaid : Prop := jsonStaysUptoRow.holds Try.pinned (OpenSpec.upto jsonStaysSpec)

/-- 'tidegatelaw27.JsonFeeds', WHERE WHAT IT READS IS OF BULK AT MOST 1048576: true; the input reads as it did. -/
def jsonFeedsUptoRow : OpenClaim := { program := "ytpelmepidboikaa", sum := "92b5dbfe019285b7a3ffe335ba2859345e2250d46c320bd787b1b86ec81bf978", func := "tidegate/tidegatelaw27.JsonFeeds", spec := "jsonFeeds", inPlace := ["internal/bytealg.IndexByteString"], recurses := true, apart := false, narrowed := true }
def JsonFeedsUptoSaid : Prop := jsonFeedsUptoRow.holds Try.pinned (OpenSpec.upto jsonFeedsSpec)

/-- 'tidegatelaw27.JsonNone', WHERE WHAT IT READS IS OF BULK AT MOST 1048576: true; the input reads as it did. -/
def jsonNoneUptoRow : OpenClaim := { program := "ytpelmepidboikaa", sum := "92b5dbfe019285b7a3ffe335ba2859345e2250d46c320bd787b1b86ec81bf978", func := "tidegate/tidegatelaw27.JsonNone", spec := "jsonNone", inPlace := ["internal/bytealg.IndexByteString"], apart := false, narrowed := true }
def JsonNoneUptoSaid : Prop := jsonNoneUptoRow.holds Try.pinned (OpenSpec.upto jsonNoneSpec)

end Rows
end Go.Proofs.Ytpelmepidboikaa
