/-
  The law OrbsniffParts of layer tidegatelaw31 holds of the given program: for every input the call returns true, and the input reads as it did. Condition: the listed package variables lie as the program's text lays them (the card ties them).
-/
import Derived.Test.YtombmblgmbjieaaGreatDoorRows
import Derived.Test.YtombmblgmbjieaaGreatDoorTie
import Derived.Test.YtombmblgmbjieaaGreatDoorCards
import Derived.Test.YtombmblgmbjieaaGreatDoorM1
import Derived.Test.YtombmblgmbjieaaGreatDoorM7
import Derived.WalkKit
import Derived.ProofKit
import Derived.OpenShut
import Derived.ShutString
import Derived.DataShut
import Derived.Stop.Joined
import Derived.SevenTiedAt
import Derived.LaidMore
import Derived.Lay
set_option linter.unusedSimpArgs false
set_option linter.unusedVariables false
namespace Go.Proofs.YtombmblgmbjieaaGreatDoor.orbsniffParts
open Go.ChangeShapes Go.WideShapes Go.ChangeAt Go.RowKit Go.Tg Go.Lg 
open Go.ChangeMaps (open_string shut_string)
set_option maxRecDepth 100000
theorem ownKnob0 : ownKnob Tryz.prog.godebug = none := by kernel_rfl
theorem lifted (os : Os) (started : os.Started) (H : Type) (enc : TypeId × Value → H) :
    ReturnsInHanded {} Tryz.checked os 12 .any (fun w args => (Rows.orbsniffPartsSpec.pre enc Tryz.prog Tryz.f12 [] false w args ∧ laidMetH Tryz.prog [("unicode/utf8.acceptRanges", Rows.laid_unicode_utf8_acceptRanges), ("unicode.White_Space", Rows.laid_unicode_White_Space), ("strings.asciiSpace", Rows.laid_strings_asciiSpace), ("unicode/utf8.first", Rows.laid_unicode_utf8_first)] w) ∧ sizedMet enc Tryz.prog Tryz.f12 (OpenSpec.ofChange Rows.orbsniffPartsSpec) false w args)
      (Rows.orbsniffPartsSpec.post enc Tryz.prog Tryz.f12 false true false false) := by
  refine returns_and_shaped (C := Tryz.checked) (X := fun w _ => laidMetH Tryz.prog [("unicode/utf8.acceptRanges", Rows.laid_unicode_utf8_acceptRanges), ("unicode.White_Space", Rows.laid_unicode_White_Space), ("strings.asciiSpace", Rows.laid_strings_asciiSpace), ("unicode/utf8.first", Rows.laid_unicode_utf8_first)] w) (fun _ _ _ hh h => h.of_heap hh) ownKnob0 started (by kernel_rfl) Tryz.func12
    (ChangeSpec.witness_shaped (enc := enc) (C := Tryz.checked) (os := os) (X := fun w _ => laidMetH Tryz.prog [("unicode/utf8.acceptRanges", Rows.laid_unicode_utf8_acceptRanges), ("unicode.White_Space", Rows.laid_unicode_White_Space), ("strings.asciiSpace", Rows.laid_strings_asciiSpace), ("unicode/utf8.first", Rows.laid_unicode_utf8_first)] w) false (World.laidAll Tryz.prog os [("unicode/utf8.acceptRanges", Rows.laid_unicode_utf8_acceptRanges), ("unicode.White_Space", Rows.laid_unicode_White_Space), ("strings.asciiSpace", Rows.laid_strings_asciiSpace), ("unicode/utf8.first", Rows.laid_unicode_utf8_first)]) #[.string ByteArray.empty, .int .i64 0, .bool false] 8 (World.laidAll_os _ _ _) (World.shaped_of_ZipB (by kernel_rfl) (by kernel_rfl)) (by kernel_rfl) (by kernel_rfl) (by kernel_rfl) (by rw [MakeChecks.laidMetH_plain _ _ _ (by kernel_rfl)]; exact laidMet_laidAll _ (by kernel_rfl) (by kernel_rfl))) ?_
  intro W base args ds gs before hval0 hW hL hsh
  have hval : ∀ (j : Nat) t v, Tryz.f12.params[j]? = some t → args[j]? = some v → Value.okWide Tryz.prog W .any base t v := hval0
  have hW' := hW
  obtain ⟨p, q, hA0, hV, rfl, hfz, hnd⟩ := hW
  have hA : DataW.TrodAll enc Tryz.prog W 0 (fun _ => true) true Tryz.f12.params.toList args.toList ds p := hA0
  rw [Tryz.params12] at hA hval
  obtain ⟨v0, vs0, d0, ds0, p0, q0, hargs, rfl, rfl, h0, r0⟩ := trodAll_cons hA
  obtain ⟨v1, vs1, d1, ds1, p1, q1, rfl, rfl, rfl, h1, r1⟩ := trodAll_cons r0
  obtain ⟨v2, vs2, d2, ds2, p2, q2, rfl, rfl, rfl, h2, r2⟩ := trodAll_cons r1
  obtain ⟨rfl, rfl, rfl⟩ := trodAll_nil r2
  obtain rfl : args = #[v0, v1, v2] := by cases args; simp_all
  obtain ⟨a0, rfl, rfl, rfl, w0⟩ := open_string Tryz.underlying9 (hval 0 9 v0 rfl rfl) h0
  obtain ⟨a1, rfl, rfl, rfl, w1⟩ := open_int Tryz.underlying3 (hval 1 3 v1 rfl rfl) h1
  obtain ⟨a2, rfl, rfl, rfl⟩ := open_bool Tryz.underlying4 (hval 2 4 v2 rfl rfl) h2
  have g1 : -9223372036854775808 ≤ a1 ∧ a1 ≤ 9223372036854775807 := (Lit.wf_int_iff .i64 a1).1 w1
  have heq : LC Tryz.prog Sn.EJ 12 [str a0.data.toList, .int .i64 a1, .bool a2] (LH.empty W 2) = some (.bool true, LH.empty W 2) := Sn.parts31 (maxN hsh)
  have hfl : ∀ x ∈ ([str a0.data.toList, .int .i64 a1, .bool a2] : List Value), flatB x = true := by simp
  have hcall := law_flat Sn.tOk hfl (w := W) (sizeN hsh) heq
  have hargs : ([str a0.data.toList, .int .i64 a1, .bool a2] : List Value).toArray = #[.string a0, .int .i64 a1, .bool a2] := by simp [str_ba]
  rw [hargs] at hcall
  refine hcall.mono fun e W' ⟨he, hg⟩ => ?_
  subst he
  exact ⟨_, rfl, law_post (by kernel_rfl) hW' rfl (fun t ht => by
    have : Tryz.f12.params.toList.all (fun t => Tryz.prog.readableRec t && decide (t < Tryz.prog.types.size)) = true := by kernel_rfl
    have h2 := List.all_eq_true.1 this t ht
    rw [Bool.and_eq_true] at h2
    exact ⟨h2.1, of_decide_eq_true h2.2⟩) rfl Tryz.underlying4 rfl (below_of_false hg)⟩
theorem k1 : (Rows.orbsniffPartsRow.wf (OpenSpec.ofChange Rows.orbsniffPartsSpec)) = true := by kernel_rfl
theorem k2 : (laidOutB Tryz.checked.prog) = true := PK.k2
theorem k3 : (mapsRowed Tryz.checked.prog) = true := PK.k3
theorem k4 : (Tryz.f12.params.all (Tryz.checked.prog.readableRec ·)) = true := by kernel_rfl
theorem k5 : (namedTie Tryz.checked.prog Rows.orbsniffPartsRow.named Rows.orbsniffPartsSpec.vars) = true := by kernel_rfl
theorem k6 : ((Rows.orbsniffPartsRow.stops == [])) = true := PK.k6
theorem k7 : ((Tryz.checked.prog.stops == [])) = true := PK.k7
theorem k8 : ((Rows.orbsniffPartsRow.knobs == [])) = true := PK.k8
theorem k9 : ((Tryz.checked.prog.stopKnobs == [])) = true := PK.k9
theorem k10 : ((Rows.orbsniffPartsRow.inPlace == Tryz.checked.prog.inPlace (12 : FuncId))) = true := by kernel_rfl
theorem k11 : ((Rows.orbsniffPartsRow.unfollowed == Tryz.checked.prog.unfollowed (12 : FuncId))) = true := by kernel_rfl
theorem k12 : ((Rows.orbsniffPartsRow.recurses == Tryz.checked.prog.recurses (12 : FuncId))) = true := by kernel_rfl
theorem k13 : ((Rows.orbsniffPartsRow.named == Tryz.checked.prog.varsNamed (12 : FuncId))) = true := by kernel_rfl
theorem k14 : ((Rows.orbsniffPartsRow.maps == (Tryz.f12.params.toList ++ Rows.orbsniffPartsSpec.plain.varTypes Tryz.checked.prog).any (Tryz.checked.prog.mapsRec ·))) = true := by kernel_rfl
theorem k15 : ((Rows.orbsniffPartsRow.ifaces == (Tryz.f12.params.toList ++ Rows.orbsniffPartsSpec.plain.varTypes Tryz.checked.prog).any (Tryz.checked.prog.ifacesRec ·))) = true := by kernel_rfl
theorem k16 : ((Rows.orbsniffPartsRow.mapsOut == Tryz.checked.prog.mapsAmong Tryz.f12.resultTypes.toList)) = true := by kernel_rfl
theorem k17 : ((Rows.orbsniffPartsRow.loops == (Tryz.f12.params.toList ++ Rows.orbsniffPartsSpec.plain.varTypes Tryz.checked.prog).any (Tryz.checked.prog.loopsFrom ·))) = true := by kernel_rfl
theorem k18 : ((Rows.orbsniffPartsRow.wideKeys == (Tryz.f12.params.toList ++ Rows.orbsniffPartsSpec.plain.varTypes Tryz.checked.prog ++ Tryz.f12.resultTypes.toList).any (Tryz.checked.prog.wideKeysFrom ·))) = true := by kernel_rfl
theorem k19 : (Rows.orbsniffPartsSpec.vars.all (Tryz.checked.prog.varReadable ·)) = true := by kernel_rfl
theorem k20 : (Tryz.f12.resultTypes.all (fun t => Tryz.checked.prog.readableRec t && decide (t < Tryz.checked.prog.types.size))) = true := by kernel_rfl
theorem k21 : ((Rows.orbsniffPartsRow.ifacesOut == Tryz.f12.resultTypes.toList.any (Tryz.checked.prog.ifacesRec ·))) = true := by kernel_rfl
theorem k22 : ((Rows.orbsniffPartsRow.loopsOut == Tryz.f12.resultTypes.toList.any (Tryz.checked.prog.loopsFrom ·))) = true := by kernel_rfl
theorem k23 : ((Rows.orbsniffPartsRow.plainKeys == Tryz.checked.prog.plainKeys)) = true := PK.k23
theorem k24 : (Rows.orbsniffPartsRow.shortTexts.isNone) = true := PK.k24
theorem k25 : (Tryz.checked.prog.stopsHeard) = true := PK.k25
theorem k26 : (Tryz.checked.prog.mayEnter) = true := PK.k26
theorem k27 : ((Rows.orbsniffPartsRow.lifted == Tryz.checked.prog.liftsFinal)) = true := PK.k27
theorem k28 : ((Tryz.checked.prog.make == some Rows.orbsniffPartsRow.make)) = true := PK.k28
theorem k29 : ((Rows.orbsniffPartsRow.kinds == (if Rows.orbsniffPartsRow.domain.isEmpty then [] else Tryz.f12.params.toList.map fun t => match Tryz.checked.prog.underlying t with | some (.int k) => some k | _ => none))) = true := by kernel_rfl
theorem k30 : ((Rows.orbsniffPartsRow.pinned == Rows.orbsniffPartsRow.pinnedBy)) = true := PK.k30
theorem k31 : ((Rows.orbsniffPartsRow.veiled == (Tryz.f12.params.toList ++ Rows.orbsniffPartsSpec.plain.varTypes Tryz.checked.prog ++ Tryz.f12.resultTypes.toList).any (Tryz.checked.prog.veiledRec ·))) = true := by kernel_rfl
theorem k32 : (Rows.orbsniffPartsRow.veiledFits Tryz.checked.prog Tryz.f12.params.toList (Tryz.f12.params.toList ++ Rows.orbsniffPartsSpec.plain.varTypes Tryz.checked.prog ++ Tryz.f12.resultTypes.toList)) = true := by kernel_rfl
theorem and2 {a b : Bool} (h1 : a = true) (h2 : b = true) : (a && b) = true := by rw [h1, h2]; rfl
theorem closedAll : joinedFacts Tryz.checked.prog 12 Tryz.f12 Rows.orbsniffPartsSpec Rows.orbsniffPartsRow = true := (and2 (and2 (and2 (and2 (and2 (and2 (and2 (and2 (and2 (and2 (and2 (and2 (and2 (and2 (and2 (and2 (and2 (and2 (and2 (and2 (and2 (and2 (and2 (and2 (and2 (and2 (and2 (and2 (and2 (and2 (and2 k1 k2) k3) k4) k5) k6) k7) k8) k9) k10) k11) k12) k13) k14) k15) k16) k17) k18) k19) k20) k21) k22) k23) k24) k25) k26) k27) k28) k29) k30) k31) k32)
theorem named0 : Tryz.checked.prog.funcNamed Rows.orbsniffPartsRow.func = some 12 := by kernel_rfl
theorem inst0 : Tryz.f12.isInstance Tryz.checked.prog Rows.orbsniffPartsRow.origin Rows.orbsniffPartsRow.targs := of_decide_eq_true (by kernel_rfl)
theorem wrap0 : Tryz.f12.isWrapper Tryz.checked.prog Rows.orbsniffPartsRow.wrapper Rows.orbsniffPartsRow.mainSum := by unfold Func.isWrapper; first | (rw [if_pos (by decide +kernel)]; kernel_rfl) | (rw [if_neg (by decide +kernel)]; exact ⟨rfl, rfl⟩)
theorem over : Rows.OrbsniffPartsSaid :=
  OpenClaim.holds_of_wide 12 Tryz.f12 rfl rfl rfl rfl rfl rfl rfl ⟨rfl, rfl, rfl, rfl, rfl⟩ rfl rfl rfl rfl rfl named0 Tryz.func12 closedAll inst0 wrap0 (fun os started H enc _ => lifted os started H enc)
theorem text0 : Rows.orbsniffPartsRow.wfByText (OpenSpec.ofChange Rows.orbsniffPartsSpec) = true := by kernel_rfl
theorem goes0 : false = OpenClaim.goesBy Rows.orbsniffPartsRow Tryz.checked.prog := by kernel_rfl
theorem wants0 : ([9, 3, 4].all fun u => !Tryz.prog.wantsStandIn u) = true := by kernel_rfl
/-- THE STATEMENT -/
theorem proved : Rows.OrbsniffPartsCardSaid :=
  Claim7.holds_tied_plain_at .later [] [.data, .listed, .data, .pinned] true (true, "bdfa4a08aec8236afd00658604fbeb7ccd8c2158731da02ca6a9ac69c8523aa6") true
    over (fun _ h => by cases h) text0 (fun _ h => by cases h) orbsniffParts_row_tie rfl ⟨rfl, rfl⟩ PK.main0 rfl
    (fun f fn hf hfn => by
      obtain rfl : f = 12 := Option.some.inj (named0.symm.trans hf) |>.symm
      obtain rfl : fn = Tryz.f12 := (Option.some.inj (Tryz.func12.symm.trans hfn)).symm
      exact ⟨PK.looks0, fun j t ht => by
        rw [Tryz.params12] at ht
        have hm : t ∈ [9, 3, 4] := by simpa using Array.mem_of_getElem? ht
        exact (show Tryz.prog.wantsStandIn t = false by simpa using List.all_eq_true.1 wants0 t hm)⟩)
    goes0
end Go.Proofs.YtombmblgmbjieaaGreatDoor.orbsniffParts
