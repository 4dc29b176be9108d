/-
  The law LexerJson of layer tidegatelaw29 holds of the given program: for every input the call returns true, and the input reads as it did. Condition: the listed package variables lie as the program's text lays them (the card ties them).
-/
import Derived.Test.YtgnefbngkhjfcaaDoorRows
import Derived.Test.YtgnefbngkhjfcaaDoorTie
import Derived.Test.YtgnefbngkhjfcaaDoorCards
import Derived.Test.YtgnefbngkhjfcaaDoorM1
import Derived.Test.YtgnefbngkhjfcaaDoorM4
import Derived.Test.YtgnefbngkhjfcaaDoorM5
import Derived.WalkKit
import Derived.ProofKit
import Derived.OpenShut
import Derived.ShutString
import Derived.DataShut
import Derived.Stop.Joined
import Derived.SevenTiedAt
import Derived.LaidMore
set_option linter.unusedSimpArgs false
set_option linter.unusedVariables false
namespace Go.Proofs.YtgnefbngkhjfcaaDoor.lexerJson
open Go.ChangeShapes Go.WideShapes Go.ChangeAt Go.RowKit Go.Tg Go.Lg Tg.Js Go.Proofs.YtgnefbngkhjfcaaDoor.Lx
open Go.ChangeMaps (open_string shut_string)
set_option maxRecDepth 100000
theorem lifted (os : Os) (started : os.Started) (H : Type) (enc : TypeId × Value → H) :
    ReturnsInHanded {} Tryd.checked os 6 .any (fun w args => (Rows.lexerJsonSpec.pre enc Tryd.prog Tryd.f6 [] false w args ∧ laidMetH Tryd.prog [("unicode.White_Space", Rows.laid_unicode_White_Space), ("strings.asciiSpace", Rows.laid_strings_asciiSpace)] w) ∧ sizedMet enc Tryd.prog Tryd.f6 (OpenSpec.ofChange Rows.lexerJsonSpec) false w args)
      (Rows.lexerJsonSpec.post enc Tryd.prog Tryd.f6 false true false false) := by
  refine returnsInHanded_of_change_and (C := Tryd.checked) (X := fun w _ => laidMetH Tryd.prog [("unicode.White_Space", Rows.laid_unicode_White_Space), ("strings.asciiSpace", Rows.laid_strings_asciiSpace)] w) (fun _ _ _ hh h => h.of_heap hh) ownKnob0 started (by kernel_rfl) Tryd.func6
    (ChangeSpec.witness_shaped (enc := enc) (C := Tryd.checked) (os := os) (X := fun w _ => laidMetH Tryd.prog [("unicode.White_Space", Rows.laid_unicode_White_Space), ("strings.asciiSpace", Rows.laid_strings_asciiSpace)] w) false (World.doorLaid Tryd.prog 4000 os) #[.string ByteArray.empty, .int .u8 0] 8 rfl (World.shaped_of_RefB (by kernel_rfl) (by kernel_rfl)) (by kernel_rfl) (by kernel_rfl) (by kernel_rfl) (door_met os _)) ?_
  intro W base args ds gs before hval0 hW _ _ hL _
  have hval : ∀ (j : Nat) t v, Tryd.f6.params[j]? = some t → args[j]? = some v → Value.okWide Tryd.prog W .any base t v := hval0
  have hW' := hW
  obtain ⟨p, q, hA0, hV, rfl, hfz, hnd⟩ := hW
  have hA : DataW.TrodAll enc Tryd.prog W 0 (fun _ => true) true Tryd.f6.params.toList args.toList ds p := hA0
  rw [Tryd.params6] at hA hval
  obtain ⟨v0, vs0, d0, ds0, p0, q0, hargs, rfl, rfl, h0, r0⟩ := trodAll_cons hA
  obtain ⟨v1, vs1, d1, ds1, p1, q1, rfl, rfl, rfl, h1, r1⟩ := trodAll_cons r0
  obtain ⟨rfl, rfl, rfl⟩ := trodAll_nil r1
  obtain rfl : args = #[v0, v1] := by cases args; simp_all
  obtain ⟨a0, rfl, rfl, rfl, w0⟩ := open_string Tryd.underlying9 (hval 0 9 v0 rfl rfl) h0
  obtain ⟨a1, rfl, rfl, rfl, w1⟩ := open_int Tryd.underlying5 (hval 1 5 v1 rfl rfl) h1
  obtain ⟨b1, rfl⟩ : ∃ b : UInt8, a1 = (b.toNat : Int) := ⟨UInt8.ofNat a1.toNat, by obtain ⟨h1, h2⟩ := (Lit.wf_int_iff .u8 a1).1 w1; rw [show IntKind.min .u8 = 0 from rfl] at h1; rw [show IntKind.max .u8 = 255 from rfl] at h2; simp; omega⟩
  have heq : LC Tryd.prog EJ 6 [str a0.data.toList, .int .u8 (b1.toNat : Int)] (LH.empty W ngT) = some (.bool true, LH.empty W ngT) := json29_l (fun _ _ => rfl) (tab_empty hL)
  have hfl : ∀ x ∈ ([str a0.data.toList, .int .u8 (b1.toNat : Int)] : List Value), flatB x = true := by simp
  have hcall := law_flat tOk hfl (w := W) (size_of_laid hL) heq
  have hargs : ([str a0.data.toList, .int .u8 (b1.toNat : Int)] : List Value).toArray = #[.string a0, .int .u8 (b1.toNat : Int)] := by simp [str_ba]
  rw [hargs] at hcall
  refine hcall.mono fun e W' ⟨he, hg⟩ => ?_
  subst he
  exact ⟨_, rfl, law_post (by kernel_rfl) hW' rfl (fun t ht => by
    have : Tryd.f6.params.toList.all (fun t => Tryd.prog.readableRec t && decide (t < Tryd.prog.types.size)) = true := by kernel_rfl
    have h2 := List.all_eq_true.1 this t ht
    rw [Bool.and_eq_true] at h2
    exact ⟨h2.1, of_decide_eq_true h2.2⟩) rfl Tryd.underlying4 rfl (below_of_false hg)⟩
theorem over : Rows.LexerJsonSaid :=
  OpenClaim.holds_of_wide 6 Tryd.f6 rfl rfl rfl rfl rfl rfl rfl ⟨rfl, rfl, rfl, rfl, rfl⟩ rfl rfl rfl rfl rfl (by kernel_rfl) Tryd.func6 (by kernel_rfl)
    (of_decide_eq_true (by kernel_rfl)) (by unfold Func.isWrapper; first | (rw [if_pos (by decide +kernel)]; kernel_rfl) | (rw [if_neg (by decide +kernel)]; exact ⟨rfl, rfl⟩))
    (fun os started H enc _ => lifted os started H enc)
/-- THE STATEMENT -/
theorem proved : Rows.LexerJsonCardSaid :=
  Claim7.holds_tied_plain_at .later [] [.listed, .data] true (true, "6f33e3a9f3387f5c0e843a41589e0c338f803d24aea300fb8ce98a6c9cac9a3d") false
    over (fun _ h => by cases h) (by kernel_rfl) (fun _ h => by cases h) lexerJson_row_tie rfl ⟨rfl, rfl⟩ (by kernel_rfl) rfl
    (fun f fn hf hfn => by
      obtain rfl : f = 6 := Option.some.inj ((show Tryd.prog.funcNamed "tidegate/tidegatelaw29.LexerJson" = some 6 by kernel_rfl).symm.trans hf) |>.symm
      obtain rfl : fn = Tryd.f6 := (Option.some.inj (Tryd.func6.symm.trans hfn)).symm
      exact ⟨by kernel_rfl, fun j t ht => by
        rw [Tryd.params6] at ht
        have hm : t ∈ [9, 5] := by simpa using Array.mem_of_getElem? ht
        have hall : ([9, 5].all fun u => !Tryd.prog.wantsStandIn u) = true := by kernel_rfl
        exact (show Tryd.prog.wantsStandIn t = false by simpa using List.all_eq_true.1 hall t hm)⟩)
    (by kernel_rfl)
end Go.Proofs.YtgnefbngkhjfcaaDoor.lexerJson
