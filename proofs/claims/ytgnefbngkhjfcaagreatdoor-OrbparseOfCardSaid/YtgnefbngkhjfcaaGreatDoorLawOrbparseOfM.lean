/-
  The law OrbparseOf of layer tidegatelaw32 holds of the given program: for every input the call returns true, and the input reads as it did. Condition: the listed package variables lie as the program's text lays them (the card ties them).
-/
import Derived.Test.YtgnefbngkhjfcaaGreatDoorRows
import Derived.Test.YtgnefbngkhjfcaaGreatDoorTie
import Derived.Test.YtgnefbngkhjfcaaGreatDoorCards
import Derived.Test.YtgnefbngkhjfcaaGreatDoorM1
import Derived.Test.YtgnefbngkhjfcaaGreatDoorM6
import Derived.WalkKit
import Derived.ProofKit
import Derived.OpenShut
import Derived.ShutString
import Derived.DataShut
import Derived.Stop.Joined
import Derived.SevenTiedAt
import Derived.LaidMore
set_option linter.unusedSimpArgs false
set_option linter.unusedVariables false
namespace Go.Proofs.YtgnefbngkhjfcaaGreatDoor.orbparseOf
open Go.ChangeShapes Go.WideShapes Go.ChangeAt Go.RowKit Go.Tg Go.Lg Go.Proofs.YtgnefbngkhjfcaaGreatDoor.Lx
open Go.ChangeMaps (open_string shut_string)
set_option maxRecDepth 100000
theorem lifted (os : Os) (started : os.Started) (H : Type) (enc : TypeId × Value → H) :
    ReturnsInHanded {} Tryz.checked os 4 .any (fun w args => (Rows.orbparseOfSpec.pre enc Tryz.prog Tryz.f4 [] false w args ∧ laidMetH Tryz.prog [("unicode.White_Space", Rows.laid_unicode_White_Space), ("strings.asciiSpace", Rows.laid_strings_asciiSpace)] w) ∧ sizedMet enc Tryz.prog Tryz.f4 (OpenSpec.ofChange Rows.orbparseOfSpec) false w args)
      (Rows.orbparseOfSpec.post enc Tryz.prog Tryz.f4 false true false false) := by
  refine returnsInHanded_of_change_and (C := Tryz.checked) (X := fun w _ => laidMetH Tryz.prog [("unicode.White_Space", Rows.laid_unicode_White_Space), ("strings.asciiSpace", Rows.laid_strings_asciiSpace)] w) (fun _ _ _ hh h => h.of_heap hh) ownKnob0 started (by kernel_rfl) Tryz.func4
    (ChangeSpec.witness_shaped (enc := enc) (C := Tryz.checked) (os := os) (X := fun w _ => laidMetH Tryz.prog [("unicode.White_Space", Rows.laid_unicode_White_Space), ("strings.asciiSpace", Rows.laid_strings_asciiSpace)] w) false (World.doorLaid Tryz.prog 4000 os) #[.string ByteArray.empty, .agg #[.bool false, .int .i64 0, .int .i64 0], .bool false] 8 rfl (World.shaped_of_RefB (by kernel_rfl) (by kernel_rfl)) (by kernel_rfl) (by kernel_rfl) (by kernel_rfl) (door_met os _)) ?_
  intro W base args ds gs before hval0 hW _ _ hL _
  have hval : ∀ (j : Nat) t v, Tryz.f4.params[j]? = some t → args[j]? = some v → Value.okWide Tryz.prog W .any base t v := hval0
  have hW' := hW
  obtain ⟨p, q, hA0, hV, rfl, hfz, hnd⟩ := hW
  have hA : DataW.TrodAll enc Tryz.prog W 0 (fun _ => true) true Tryz.f4.params.toList args.toList ds p := hA0
  rw [Tryz.params4] at hA hval
  obtain ⟨v0, vs0, d0, ds0, p0, q0, hargs, rfl, rfl, h0, r0⟩ := trodAll_cons hA
  obtain ⟨v1, vs1, d1, ds1, p1, q1, rfl, rfl, rfl, h1, r1⟩ := trodAll_cons r0
  obtain ⟨v2, vs2, d2, ds2, p2, q2, rfl, rfl, rfl, h2, r2⟩ := trodAll_cons r1
  obtain ⟨rfl, rfl, rfl⟩ := trodAll_nil r2
  obtain rfl : args = #[v0, v1, v2] := by cases args; simp_all
  obtain ⟨a0, rfl, rfl, rfl, w0⟩ := open_string Tryz.underlying9 (hval 0 9 v0 rfl rfl) h0
  obtain ⟨l1, k1, n1, rfl, wk1, wn1⟩ := open_rules (hval 1 29 v1 rfl rfl) h1
  obtain ⟨a2, rfl, rfl, rfl⟩ := open_bool Tryz.underlying4 (hval 2 4 v2 rfl rfl) h2
  have heq : LC Tryz.prog EJ 4 [str a0.data.toList, Lx.rv l1 k1 n1, .bool a2] (LH.empty W ngT) = some (.bool true, LH.empty W ngT) := Lx.oof_l (fun _ _ => rfl) (tab_empty hL)
  have hfl : ∀ x ∈ ([str a0.data.toList, Lx.rv l1 k1 n1, .bool a2] : List Value), flatB x = true := by simp
  have hcall := law_flat tOk hfl (w := W) (size_of_laid hL) heq
  have hargs : ([str a0.data.toList, Lx.rv l1 k1 n1, .bool a2] : List Value).toArray = #[.string a0, Lx.rv l1 k1 n1, .bool a2] := by simp [str_ba]
  rw [hargs] at hcall
  refine hcall.mono fun e W' ⟨he, hg⟩ => ?_
  subst he
  exact ⟨_, rfl, law_post (by kernel_rfl) hW' rfl (fun t ht => by
    have : Tryz.f4.params.toList.all (fun t => Tryz.prog.readableRec t && decide (t < Tryz.prog.types.size)) = true := by kernel_rfl
    have h2 := List.all_eq_true.1 this t ht
    rw [Bool.and_eq_true] at h2
    exact ⟨h2.1, of_decide_eq_true h2.2⟩) rfl Tryz.underlying4 rfl (below_of_false hg)⟩
theorem over : Rows.OrbparseOfSaid :=
  OpenClaim.holds_of_wide 4 Tryz.f4 rfl rfl rfl rfl rfl rfl rfl ⟨rfl, rfl, rfl, rfl, rfl⟩ rfl rfl rfl rfl rfl (by kernel_rfl) Tryz.func4 (by kernel_rfl)
    (of_decide_eq_true (by kernel_rfl)) (by unfold Func.isWrapper; first | (rw [if_pos (by decide +kernel)]; kernel_rfl) | (rw [if_neg (by decide +kernel)]; exact ⟨rfl, rfl⟩))
    (fun os started H enc _ => lifted os started H enc)
/-- THE STATEMENT -/
theorem proved : Rows.OrbparseOfCardSaid :=
  Claim7.holds_tied_plain_at .later [] [.listed, .data] true (true, "c6ee99536b422b625077ca99d36b0af8e4e164a5e5412a637d481ad63a4bfc31") false
    over (fun _ h => by cases h) (by kernel_rfl) (fun _ h => by cases h) orbparseOf_row_tie rfl ⟨rfl, rfl⟩ (by kernel_rfl) rfl
    (fun f fn hf hfn => by
      obtain rfl : f = 4 := Option.some.inj ((show Tryz.prog.funcNamed "tidegate/tidegatelaw32.OrbparseOf" = some 4 by kernel_rfl).symm.trans hf) |>.symm
      obtain rfl : fn = Tryz.f4 := (Option.some.inj (Tryz.func4.symm.trans hfn)).symm
      exact ⟨by kernel_rfl, fun j t ht => by
        rw [Tryz.params4] at ht
        have hm : t ∈ [9, 29, 4] := by simpa using Array.mem_of_getElem? ht
        have hall : ([9, 29, 4].all fun u => !Tryz.prog.wantsStandIn u) = true := by kernel_rfl
        exact (show Tryz.prog.wantsStandIn t = false by simpa using List.all_eq_true.1 hall t hm)⟩)
    (by kernel_rfl)
end Go.Proofs.YtgnefbngkhjfcaaGreatDoor.orbparseOf
