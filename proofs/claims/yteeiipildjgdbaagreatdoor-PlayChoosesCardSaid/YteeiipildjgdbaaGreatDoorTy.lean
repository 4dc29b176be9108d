/-
  The ties of the rows to the program's text: each closed fact by itself.
-/
import Derived.Test.YteeiipildjgdbaaGreatDoorRows
import Derived.LaidByTextLater
import Derived.SevenTiedAt
set_option linter.unusedVariables false
namespace Go.Proofs.YteeiipildjgdbaaGreatDoor
open Go
theorem pin_laid_unicode_utf8_first : Tryz.pinned.checked.prog.pinnedFits "unicode/utf8.first" = true := by kernel_rfl
theorem noOwnUnsafe : Tryz.pinned.checked.prog.headLifts.contains "ownunsafe" = false := by kernel_rfl
theorem fits1 : Tryz.pinned.checked.prog.listedFits [("unicode/utf8.first", Rows.laid_unicode_utf8_first), ("unicode/utf8.acceptRanges", Rows.laid_unicode_utf8_acceptRanges), ("internal/strconv.uint64pow10", Rows.laid_internal_strconv_uint64pow10), ("math/bits.deBruijn32tab", Rows.laid_math_bits_deBruijn32tab), ("math/bits.deBruijn64tab", Rows.laid_math_bits_deBruijn64tab), ("strings.asciiSpace", Rows.laid_strings_asciiSpace), ("unicode.White_Space", Rows.laid_unicode_White_Space)] = true := by
  unfold Program.listedFits
  rw [noOwnUnsafe]
  kernel_rfl
def tieL : List (String × DataW Unit) := [("unicode/utf8.acceptRanges", Rows.laid_unicode_utf8_acceptRanges), ("internal/strconv.uint64pow10", Rows.laid_internal_strconv_uint64pow10), ("math/bits.deBruijn32tab", Rows.laid_math_bits_deBruijn32tab), ("math/bits.deBruijn64tab", Rows.laid_math_bits_deBruijn64tab), ("strings.asciiSpace", Rows.laid_strings_asciiSpace), ("unicode.White_Space", Rows.laid_unicode_White_Space)]
theorem tie_a : Tryz.prog.worded (varsWordLater true) = true := by kernel_rfl
theorem tie_b : Tryz.prog.worded (varsWordLater !true) = false := by kernel_rfl
theorem tie_c : Tryz.prog.worded rootWordLater = true := by kernel_rfl
theorem tie_d : tieL.map (fun x => Tryz.prog.kindOfLater x.1) = ([.data, .data, .data, .data, .data, .listed] : List LaidKind).map some := by kernel_rfl
theorem tie_e : (Tryz.prog.funcNamed "gosem.cut.vars").isSome = true := by kernel_rfl
theorem tie_f : varsNamedLaterB Tryz.prog (varsId Tryz.prog) tieL = true := by kernel_rfl
theorem tie_g (os : Os) (tape : Nat → Question → Nat) : varsDone Tryz.prog 400 (varsId Tryz.prog) os tape = true := by kernel_rfl
def tieP : List MemPlace := MemPlace.row ⟨4, 0, none⟩ 32 ++ MemPlace.row ⟨1, 0, none⟩ 20 ++ MemPlace.row ⟨6, 0, none⟩ 32 ++ MemPlace.row ⟨7, 0, none⟩ 64 ++ MemPlace.row ⟨2, 0, none⟩ 256 ++ MemPlace.row ⟨5, 0, none⟩ 1 ++ MemPlace.row ⟨15, 0, none⟩ 3 ++ MemPlace.row ⟨14, 0, none⟩ 21
theorem tie_h (os : Os) (tape : Nat → Question → Nat) : DataW.laidRun Tryz.prog (varsWorld Tryz.prog 400 (varsId Tryz.prog) os tape).memory 8 (tieL.map (·.1)) = some (tieL, tieP) := by kernel_rfl
def tieF (w : World) (b : Nat) : Bool := match w.heap[b]? with
  | some (.cells arr _ (0, 0)) => arr.all fun v => match v with
    | .iface _ _ => false
    | _ => true
  | _ => false
theorem tieF_row {P : Program} {w : World} {b n : Nat} (h : tieF w b = true) : laidRowsB P w (MemPlace.row ⟨b, 0, none⟩ n) = true := by
  unfold tieF at h
  split at h
  · rename_i arr t hb
    unfold laidRowsB
    rw [List.all_eq_true]
    intro x hx
    unfold MemPlace.row at hx
    simp only [List.mem_map, List.mem_range] at hx
    obtain ⟨i, hi, rfl⟩ := hx
    simp only [Nat.zero_add, hb, Bool.true_and]
    split
    · rename_i u v hc
      exfalso
      simp only [World.cell?, hb] at hc
      rw [Array.all_eq_true] at h
      have hi2 : i < arr.size := by
        rcases Nat.lt_or_ge i arr.size with g | g
        · exact g
        · simp [Array.getElem?_eq_none g] at hc
      have := h i hi2
      simp [Array.getElem?_eq_getElem hi2] at hc
      rw [hc] at this
      simp at this
    · rfl
  · cases h
theorem rows_app {P : Program} {w : World} {a b : List MemPlace} (h1 : laidRowsB P w a = true) (h2 : laidRowsB P w b = true) : laidRowsB P w (a ++ b) = true := by
  unfold laidRowsB at *
  rw [List.all_append, h1, h2]; rfl
theorem tie_r0 (os : Os) (tape : Nat → Question → Nat) : tieF (varsWorld Tryz.prog 400 (varsId Tryz.prog) os tape).memory 4 = true := by kernel_rfl
theorem tie_r1 (os : Os) (tape : Nat → Question → Nat) : tieF (varsWorld Tryz.prog 400 (varsId Tryz.prog) os tape).memory 1 = true := by kernel_rfl
theorem tie_r2 (os : Os) (tape : Nat → Question → Nat) : tieF (varsWorld Tryz.prog 400 (varsId Tryz.prog) os tape).memory 6 = true := by kernel_rfl
theorem tie_r3 (os : Os) (tape : Nat → Question → Nat) : tieF (varsWorld Tryz.prog 400 (varsId Tryz.prog) os tape).memory 7 = true := by kernel_rfl
theorem tie_r4 (os : Os) (tape : Nat → Question → Nat) : tieF (varsWorld Tryz.prog 400 (varsId Tryz.prog) os tape).memory 2 = true := by kernel_rfl
theorem tie_r5 (os : Os) (tape : Nat → Question → Nat) : tieF (varsWorld Tryz.prog 400 (varsId Tryz.prog) os tape).memory 5 = true := by kernel_rfl
theorem tie_r6 (os : Os) (tape : Nat → Question → Nat) : tieF (varsWorld Tryz.prog 400 (varsId Tryz.prog) os tape).memory 15 = true := by kernel_rfl
theorem tie_r7 (os : Os) (tape : Nat → Question → Nat) : tieF (varsWorld Tryz.prog 400 (varsId Tryz.prog) os tape).memory 14 = true := by kernel_rfl
theorem tie_r (os : Os) (tape : Nat → Question → Nat) : laidRowsB Tryz.prog (varsWorld Tryz.prog 400 (varsId Tryz.prog) os tape).memory tieP = true := rows_app (rows_app (rows_app (rows_app (rows_app (rows_app (rows_app (tieF_row (tie_r0 os tape)) (tieF_row (tie_r1 os tape))) (tieF_row (tie_r2 os tape))) (tieF_row (tie_r3 os tape))) (tieF_row (tie_r4 os tape))) (tieF_row (tie_r5 os tape))) (tieF_row (tie_r6 os tape))) (tieF_row (tie_r7 os tape))
def tieB : List MemPlace → Bool
  | [] => true
  | .cell b i :: l => (l.all fun
    | .cell c j => !(Nat.beq b c && Nat.beq i j)
    | _ => true) && tieB l
  | _ :: _ => false
theorem tieB_nodup : ∀ {l : List MemPlace}, tieB l = true → l.Nodup
  | [], _ => List.nodup_nil
  | .cell b i :: l, h => by
    unfold tieB at h
    rw [Bool.and_eq_true] at h
    refine List.nodup_cons.2 ⟨fun hm => ?_, tieB_nodup h.2⟩
    have := List.all_eq_true.1 h.1 _ hm
    simp at this
  | .map _ :: _, h => by simp [tieB] at h
theorem tie_n : tieP.Nodup := tieB_nodup (by kernel_rfl)
theorem tie_j : (tieL.all fun x => x.2.handleName?.isNone) = true := by kernel_rfl
theorem tie : Tryz.prog.laidByTextLater tieL [.data, .data, .data, .data, .data, .listed] true := Program.laidByTextLater_by_run 400 8 tie_a tie_b tie_c tie_d tie_e tie_f tie_g (fun os tape => by rw [tie_h]; rfl) (fun os tape => by rw [tie_h]; show some (decide tieP.Nodup && laidRowsB _ _ tieP) = _; rw [tie_r, decide_eq_true tie_n]; rfl) tie_j
theorem playDiffs_row_tie : Rows.playDiffsRow.laidByTextAt .later Tryz.pinned [.pinned, .data, .data, .data, .data, .data, .listed] true :=
  OpenClaim.laidByTextAt_pinned rfl rfl tie rfl rfl rfl rfl (fun y hy _e => by
    simp only [Rows.playDiffsRow, List.zip_cons_cons, List.zip_nil_right, List.mem_cons, List.mem_nil_iff, or_false] at hy
    rcases hy with rfl | rfl | rfl | rfl | rfl | rfl | rfl
    · exact ⟨pin_laid_unicode_utf8_first, by kernel_rfl⟩
    · cases _e
    · cases _e
    · cases _e
    · cases _e
    · cases _e
    · cases _e) fits1
theorem playChooses_row_tie : Rows.playChoosesRow.laidByTextAt .later Tryz.pinned [.pinned, .data, .data, .data, .data, .data, .listed] true :=
  OpenClaim.laidByTextAt_pinned rfl rfl tie rfl rfl rfl rfl (fun y hy _e => by
    simp only [Rows.playChoosesRow, List.zip_cons_cons, List.zip_nil_right, List.mem_cons, List.mem_nil_iff, or_false] at hy
    rcases hy with rfl | rfl | rfl | rfl | rfl | rfl | rfl
    · exact ⟨pin_laid_unicode_utf8_first, by kernel_rfl⟩
    · cases _e
    · cases _e
    · cases _e
    · cases _e
    · cases _e
    · cases _e) fits1
theorem playDiffsUpto_row_tie : Rows.playDiffsUptoRow.laidByTextAt .later Tryz.pinned [.pinned, .data, .data, .data, .data, .data, .listed] true :=
  OpenClaim.laidByTextAt_pinned rfl rfl tie rfl rfl rfl rfl (fun y hy _e => by
    simp only [Rows.playDiffsUptoRow, List.zip_cons_cons, List.zip_nil_right, List.mem_cons, List.mem_nil_iff, or_false] at hy
    rcases hy with rfl | rfl | rfl | rfl | rfl | rfl | rfl
    · exact ⟨pin_laid_unicode_utf8_first, by kernel_rfl⟩
    · cases _e
    · cases _e
    · cases _e
    · cases _e
    · cases _e
    · cases _e) fits1
theorem playChoosesUpto_row_tie : Rows.playChoosesUptoRow.laidByTextAt .later Tryz.pinned [.pinned, .data, .data, .data, .data, .data, .listed] true :=
  OpenClaim.laidByTextAt_pinned rfl rfl tie rfl rfl rfl rfl (fun y hy _e => by
    simp only [Rows.playChoosesUptoRow, List.zip_cons_cons, List.zip_nil_right, List.mem_cons, List.mem_nil_iff, or_false] at hy
    rcases hy with rfl | rfl | rfl | rfl | rfl | rfl | rfl
    · exact ⟨pin_laid_unicode_utf8_first, by kernel_rfl⟩
    · cases _e
    · cases _e
    · cases _e
    · cases _e
    · cases _e
    · cases _e) fits1
end Go.Proofs.YteeiipildjgdbaaGreatDoor
