/-
  What the listed package variables give: the table of blanks lies in its variable.
-/
import Derived.Test.YtgnefbngkhjfcaaDoorJsLib
import Derived.Test.YtgnefbngkhjfcaaDoorRows
import Derived.Test.YtgnefbngkhjfcaaDoorEnd
import Derived.ProofKit
import Derived.LaidMore
import Derived.LaidSub
import Derived.Lib.LaidTab
import Derived.Stop.Joined
set_option linter.unusedSimpArgs false
set_option linter.unusedVariables false
set_option maxRecDepth 100000
namespace Go.Proofs.YtgnefbngkhjfcaaDoor
open Go.ChangeShapes Go.WideShapes Go.ChangeAt Go.RowKit Go.Tg Go.Lg

noncomputable def laid2 : List (String × DataW Unit) := [("unicode.White_Space", Rows.laid_unicode_White_Space), ("strings.asciiSpace", Rows.laid_strings_asciiSpace)]
theorem ownKnob0 : ownKnob Tryd.prog.godebug = none := by kernel_rfl
theorem gTab : Tryd.prog.globalNamed "strings.asciiSpace" = some 0 := by kernel_rfl
theorem tab_of_laid {W : World} (h : laidMetH Tryd.prog laid2 W) : Lib.TabIs Tryd.prog W "strings.asciiSpace" .u8 Lib.asciiSpaceTab := by
  have h1 : laidMet Tryd.prog laid2 W := by rwa [MakeChecks.laidMetH_plain _ _ _ (by kernel_rfl)] at h
  have h2 := h1.filter (fun x => x.1 == "strings.asciiSpace")
  have e : laid2.filter (fun x => x.1 == "strings.asciiSpace") = [("strings.asciiSpace", Lib.tabData .u8 Lib.asciiSpaceTab)] := by kernel_rfl
  rw [e] at h2
  exact Lib.tabIs_of_head (g := 0) (t := 87) (e := 5) (n := 256) gTab (by kernel_rfl) (by kernel_rfl) (by kernel_rfl) (by kernel_rfl) (by kernel_rfl) h2
theorem size_of_laid {W : World} (h : laidMetH Tryd.prog laid2 W) : 1 ≤ W.heap.size := by
  have h1 := tab_of_laid h
  have := h1.cell gTab 0 (by decide)
  rcases Nat.lt_or_ge 0 W.heap.size with h2 | h2
  · exact h2
  · simp [World.cell?, Array.getElem?_eq_none h2] at this
theorem tab_empty {W : World} (h : laidMetH Tryd.prog laid2 W) : Tab (LH.empty W 1) := ⟨Nat.one_pos, tab_of_laid h⟩
theorem door_met (os : Os) (args : Array Value) : laidMetH Tryd.prog laid2 ((World.doorLaid Tryd.prog 4000 os).forCall (fun _ _ => 0) ⟨#[], args, []⟩).memory :=
  laidMetH_of_parts3 (fuel := 12) (laidMet_of_run' 12 (by kernel_rfl) (by kernel_rfl)) (by kernel_rfl) (by kernel_rfl)
theorem door_shaped (os : Os) (args : Array Value) : True := trivial
end Go.Proofs.YtgnefbngkhjfcaaDoor
