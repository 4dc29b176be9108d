/-
  The law JsonWhole of layer tidegatelaw27 holds of the given program: for every input the call returns true, and the input reads as it did. No condition.
-/
import Derived.Test.YtpelmepidboikaaRows
import Derived.WalkKit
import Derived.ProofKit
import Derived.OpenShut
import Derived.ShutString
import Derived.Test.YtpelmepidboikaaJsonLives
import Derived.Test.YtpelmepidboikaaJsonRefG
import Derived.Test.YtpelmepidboikaaEnd
namespace Go.Proofs.Ytpelmepidboikaa.jsonWhole
open Go.ChangeShapes Go.WideShapes Go.ChangeAt Go.RowKit Go.Tg Tg.Json 
open Go.ChangeMaps (open_string shut_string)
set_option linter.unusedSimpArgs false
set_option linter.unusedVariables false
set_option linter.unusedVariables false      -- a walk need not use every 'w<i>' (that an integer argument fits its kind)

theorem own : ownKnob Try.prog.godebug = none := by kernel_rfl

/-! ### the walk -/
theorem walk (a0 : ByteArray) (a1 : Int) (w0 : a0.size ≤ maxLen) (w1 : (Lit.int .u8 a1).wf = true) (w : World) :
    Calls Try.prog 3 #[.string a0, .int .u8 a1] w fun e w' => e = .returned (.bool true) ∧ Below w.heap.size w w' := by
  obtain ⟨hw0, hw1⟩ := bounds_u8 w1
  have HS := Lib.hid w0
  clear w0 w1
  obtain ⟨D, hD⟩ : ∃ D : Nat, (D : Int) = a1 := ⟨a1.toNat, by omega⟩
  have hDl : D ≤ 255 := by omega
  subst hD
  clear hw0 hw1
  obtain ⟨n, hn⟩ : ∃ n : Nat, n = min D 200 := ⟨_, rfl⟩
  have hn2 : n ≤ 200 := by omega
  by_cases hc : 200 < D
  all_goals
    have hnv : (200 < D ∧ n = 200) ∨ (D ≤ 200 ∧ n = D) := by omega
    have HN := Lib.hid hnv
    have Hn := Lib.hid hn
    clear hn hnv
    go_enter Try.func3, Try.ntmps3
    go_wp2_with fail
    refine (cut_any a0 400 _ HS.out).mono ?_
    rintro e w1 ⟨rfl, rfl⟩
    obtain ⟨s, hs⟩ : ∃ s, s = a0.extract 0 400 := ⟨_, rfl⟩
    have hsz : s.size ≤ 400 := by rw [hs, ByteArray.size_extract]; omega
    rw [← hs]
    clear hs
    go_wp2_with fail
    refine (whole_any s D n _ (by omega) (by have := HN.out; omega) (by omega)).mono ?_
    rintro e w2 ⟨rfl, hc1⟩
    have HC1 := Lib.hid hc1
    clear hc1
    have hva : (whole s.data.toList n).1 = wholeN s.data.toList n := rfl
    have hvb : (whole s.data.toList n).2 = wholeP s.data.toList n := rfl
    rw [hva, hvb]
    clear hva hvb
    go_wp2_with fail
    refine (rwholeI s _ n _ (by have := HN.out; omega) (by omega) hn2).mono ?_
    rintro e w3 ⟨rfl, hc2⟩
    have HC2 := Lib.hid (HC1.out.trans hc2 (fun i h => h.elim))
    clear hc2
    go_wp2_with fail
    refine (rwholeI s _ 200 _ (by omega) (by omega) (by omega)).mono ?_
    rintro e w4 ⟨rfl, hc3⟩
    have HC3 := Lib.hid (HC2.out.trans hc3 (fun i h => h.elim))
    clear hc3
    go_wp2_with fail
    refine (valid_any s _ (by omega)).mono ?_
    rintro e w5 ⟨rfl, hc4⟩
    have HC4 := Lib.hid (HC3.out.trans hc4 (fun i h => h.elim))
    clear hc4
    have hv : ((whole s.data.toList 200).1 == 2) = (wholeN s.data.toList 200 == 2) := by
      unfold wholeN; rw [Bool.eq_iff_iff]; simp; omega
    rw [hv]
    clear hv
    go_wp2_with (go_at_call 11; refine (lives_any _).mono ?_; rintro e w6 ⟨rfl, hc5⟩)
    go_ret
    exact ⟨rfl, below_of_false (HC4.out.trans hc5 (fun i h => h.elim))⟩

/-! ### THE ROW's STEP: WRITTEN OUT: LEAVE IT -/
set_option maxRecDepth 100000 in
theorem lifted (os : Os) (started : os.Started) (H : Type) (enc : TypeId × Value → H) :
    ReturnsInHanded {} Try.checked os 3 .any (Rows.jsonWholeSpec.pre6 enc Try.prog Try.f3 Rows.jsonWholeRow.domain false) (Rows.jsonWholeSpec.post enc Try.prog Try.f3 false true false false) := by
  refine returnsInHanded_of_change (C := Try.checked) own started (by kernel_rfl) Try.func3
    (ChangeSpec.witness6 (enc := enc) (C := Try.checked) false ⟨#[], #[.string ByteArray.empty, .int .u8 0], []⟩ 8 (by kernel_rfl) (by kernel_rfl) (by kernel_rfl) (by kernel_rfl)) ?_
  intro W base args ds gs before hval0 hW hcnd _
  have hval : ∀ (j : Nat) t v, Try.f3.params[j]? = some t → args[j]? = some v → Value.okWide Try.prog W .any base t v := hval0
  have hW' := hW
  obtain ⟨p, q, hA0, hV, rfl, hfz, hnd⟩ := hW
  have hA : DataW.TrodAll enc Try.prog W 0 (fun _ => true) true Try.f3.params.toList args.toList ds p := hA0
  rw [Try.params3] at hA hval
  obtain ⟨v0, vs0, d0, ds0, p0, q0, hargs, rfl, rfl, h0, r0⟩ := trodAll_cons hA
  obtain ⟨v1, vs1, d1, ds1, p1, q1, rfl, rfl, rfl, h1, r1⟩ := trodAll_cons r0
  obtain ⟨rfl, rfl, rfl⟩ := trodAll_nil r1
  obtain rfl : args = #[v0, v1] := by cases args; simp_all
  obtain ⟨rfl, rfl⟩ := trodVars_none hV
  obtain ⟨a0, rfl, rfl, rfl, w0⟩ := open_string Try.underlying9 (hval 0 9 v0 rfl rfl) h0
  obtain ⟨a1, rfl, rfl, rfl, w1⟩ := open_int Try.underlying5 (hval 1 5 v1 rfl rfl) h1
  clear hA0 hval0
  simp only [List.append_nil] at hW'
  refine (walk a0 a1 w0 w1 W).mono fun e W' ⟨he, hg⟩ => ?_
  subst he
  exact ⟨_, rfl, post_of_below (pa := []) (pv := []) hW' (fun _ _ _ => (trodAll_cons_mk (shut_bool Try.underlying4 _) trodAll_mk0)) (fun sp _ => (trodAll_cons_mk (shut_string Try.underlying9 w0) (trodAll_cons_mk (shut_int Try.underlying5 w1) trodAll_mk0))) (fun _ _ => rfl) rfl
    hg (ok_one (by kernel_rfl) rfl (okWide_bool_mk Try.underlying4 _))⟩

theorem over : Rows.jsonWholeRow.holds Try.pinned (OpenSpec.ofChange Rows.jsonWholeSpec) :=
  OpenClaim.holds_of_wide 3 Try.f3 rfl rfl rfl rfl rfl rfl rfl ⟨rfl, rfl, rfl, rfl, rfl⟩ rfl rfl rfl rfl rfl (by kernel_rfl) Try.func3 (by kernel_rfl)
    (of_decide_eq_true (by kernel_rfl)) (by unfold Func.isWrapper; first | (rw [if_pos (by decide +kernel)]; kernel_rfl) | (rw [if_neg (by decide +kernel)]; exact ⟨rfl, rfl⟩))
    (fun os started H enc _ => lifted os started H enc)

/-- ████ THE STATEMENT ████ -/
theorem proved : Rows.JsonWholeSaid :=
  over
end Go.Proofs.Ytpelmepidboikaa.jsonWhole
