/-
  The law LexerFeeds of layer tidegatelaw29 holds of the given program: for every input the call returns true, and the input reads as it did. Condition: the listed package variables lie as the program's text lays them (the card ties them).
-/
import Derived.Test.YtgnefbngkhjfcaaGreatDoorRows
import Derived.Test.YtgnefbngkhjfcaaGreatDoorTie
import Derived.Test.YtgnefbngkhjfcaaGreatDoorCards
import Derived.Test.YtgnefbngkhjfcaaGreatDoorM1
import Derived.Test.YtgnefbngkhjfcaaGreatDoorM4
import Derived.Test.YtgnefbngkhjfcaaGreatDoorM6
import Derived.WalkKit
import Derived.ProofKit
import Derived.OpenShut
import Derived.ShutString
import Derived.DataShut
import Derived.Stop.Joined
import Derived.SevenTiedAt
import Derived.LaidMore
set_option linter.unusedSimpArgs false
set_option linter.unusedVariables false
namespace Go.Proofs.YtgnefbngkhjfcaaGreatDoor.lexerFeeds
open Go.ChangeShapes Go.WideShapes Go.ChangeAt Go.RowKit Go.Tg Go.Lg Tg.Js Go.Proofs.YtgnefbngkhjfcaaGreatDoor.Lx
open Go.ChangeMaps (open_string shut_string)
set_option maxRecDepth 100000
theorem lifted (os : Os) (started : os.Started) (H : Type) (enc : TypeId × Value → H) :
    ReturnsInHanded {} Tryz.checked os 5 .any (fun w args => (Rows.lexerFeedsSpec.pre enc Tryz.prog Tryz.f5 [] false w args ∧ laidMetH Tryz.prog [("unicode.White_Space", Rows.laid_unicode_White_Space), ("strings.asciiSpace", Rows.laid_strings_asciiSpace)] w) ∧ sizedMet enc Tryz.prog Tryz.f5 (OpenSpec.ofChange Rows.lexerFeedsSpec) false w args)
      (Rows.lexerFeedsSpec.post enc Tryz.prog Tryz.f5 false true false false) := by
  refine returnsInHanded_of_change_and (C := Tryz.checked) (X := fun w _ => laidMetH Tryz.prog [("unicode.White_Space", Rows.laid_unicode_White_Space), ("strings.asciiSpace", Rows.laid_strings_asciiSpace)] w) (fun _ _ _ hh h => h.of_heap hh) ownKnob0 started (by kernel_rfl) Tryz.func5
    (ChangeSpec.witness_shaped (enc := enc) (C := Tryz.checked) (os := os) (X := fun w _ => laidMetH Tryz.prog [("unicode.White_Space", Rows.laid_unicode_White_Space), ("strings.asciiSpace", Rows.laid_strings_asciiSpace)] w) false (World.doorLaid Tryz.prog 4000 os) #[.slice none 0 0, .int .i64 0] 8 rfl (World.shaped_of_RefB (by kernel_rfl) (by kernel_rfl)) (by kernel_rfl) (by kernel_rfl) (by kernel_rfl) (door_met os _)) ?_
  intro W base args ds gs before hval0 hW _ _ hL _
  have hval : ∀ (j : Nat) t v, Tryz.f5.params[j]? = some t → args[j]? = some v → Value.okWide Tryz.prog W .any base t v := hval0
  have hW' := hW
  obtain ⟨p, q, hA0, hV, rfl, hfz, hnd⟩ := hW
  have hA : DataW.TrodAll enc Tryz.prog W 0 (fun _ => true) true Tryz.f5.params.toList args.toList ds p := hA0
  rw [Tryz.params5] at hA hval
  obtain ⟨v0, vs0, d0, ds0, p0, q0, hargs, rfl, rfl, h0, r0⟩ := trodAll_cons hA
  obtain ⟨v1, vs1, d1, ds1, p1, q1, rfl, rfl, rfl, h1, r1⟩ := trodAll_cons r0
  obtain ⟨rfl, rfl, rfl⟩ := trodAll_nil r1
  obtain rfl : args = #[v0, v1] := by cases args; simp_all
  obtain ⟨ad0, len0, cap0, rfl⟩ := okWide_slice Tryz.underlying33 (hval 0 33 v0 rfl rfl)
  obtain ⟨fu0, hf0⟩ := h0
  obtain ⟨vv0, xs0, hcs0, rv0, rl0⟩ := row_of_trod (El := fun (s : List UInt8) cs => cs = [str s]) (g := ngT) Tryz.underlying33 (show Tryz.prog.cellsOf 9 = 1 by kernel_rfl) (by decide) (Nat.lt_of_lt_of_le (Nat.succ_pos _) (size_of_laid hL)) (fun fuel cs y hy => by obtain ⟨s, rfl, _⟩ := str_of_trod Tryz.underlying9 hy; exact ⟨s, rfl⟩) hf0
  simp only [Value.cells, List.cons.injEq, and_true] at hcs0
  subst hcs0
  obtain ⟨a1, rfl, rfl, rfl, w1⟩ := open_int Tryz.underlying3 (hval 1 3 v1 rfl rfl) h1
  have g1 : -9223372036854775808 ≤ a1 ∧ a1 ≤ 9223372036854775807 := (Lit.wf_int_iff .i64 a1).1 w1
  obtain ⟨Hx, heq⟩ : ∃ H' : LH, LC Tryz.prog EJ 5 [lift1 W.heap.size (.slice ad0 len0 cap0), .int .i64 a1] (LH.lift W ngT) = some (.bool true, H') := feeds29_l rv0 (fun l hl => by show liftB _ W.heap[l]? = none; rw [Array.getElem?_eq_none hl]; rfl) ⟨Nat.lt_succ_self _, tab_of_laid hL⟩ rl0
  have hcall := law_lift (args := #[.slice ad0 len0 cap0, .int .i64 a1]) tOk (size_of_laid hL) (by simpa [str_ba, liftV] using heq)
  refine hcall.mono fun e W' ⟨he, hg⟩ => ?_
  subst he
  exact ⟨_, rfl, law_post (by kernel_rfl) hW' rfl (fun t ht => by
    have : Tryz.f5.params.toList.all (fun t => Tryz.prog.readableRec t && decide (t < Tryz.prog.types.size)) = true := by kernel_rfl
    have h2 := List.all_eq_true.1 this t ht
    rw [Bool.and_eq_true] at h2
    exact ⟨h2.1, of_decide_eq_true h2.2⟩) rfl Tryz.underlying4 rfl (below_of_false hg)⟩
theorem over : Rows.LexerFeedsSaid :=
  OpenClaim.holds_of_wide 5 Tryz.f5 rfl rfl rfl rfl rfl rfl rfl ⟨rfl, rfl, rfl, rfl, rfl⟩ rfl rfl rfl rfl rfl (by kernel_rfl) Tryz.func5 (by kernel_rfl)
    (of_decide_eq_true (by kernel_rfl)) (by unfold Func.isWrapper; first | (rw [if_pos (by decide +kernel)]; kernel_rfl) | (rw [if_neg (by decide +kernel)]; exact ⟨rfl, rfl⟩))
    (fun os started H enc _ => lifted os started H enc)
/-- THE STATEMENT -/
theorem proved : Rows.LexerFeedsCardSaid :=
  Claim7.holds_tied_plain_at .later [] [.listed, .data] true (true, "c6ee99536b422b625077ca99d36b0af8e4e164a5e5412a637d481ad63a4bfc31") false
    over (fun _ h => by cases h) (by kernel_rfl) (fun _ h => by cases h) lexerFeeds_row_tie rfl ⟨rfl, rfl⟩ (by kernel_rfl) rfl
    (fun f fn hf hfn => by
      obtain rfl : f = 5 := Option.some.inj ((show Tryz.prog.funcNamed "tidegate/tidegatelaw29.LexerFeeds" = some 5 by kernel_rfl).symm.trans hf) |>.symm
      obtain rfl : fn = Tryz.f5 := (Option.some.inj (Tryz.func5.symm.trans hfn)).symm
      exact ⟨by kernel_rfl, fun j t ht => by
        rw [Tryz.params5] at ht
        have hm : t ∈ [33, 3] := by simpa using Array.mem_of_getElem? ht
        have hall : ([33, 3].all fun u => !Tryz.prog.wantsStandIn u) = true := by kernel_rfl
        exact (show Tryz.prog.wantsStandIn t = false by simpa using List.all_eq_true.1 hall t hm)⟩)
    (by kernel_rfl)
end Go.Proofs.YtgnefbngkhjfcaaGreatDoor.lexerFeeds
