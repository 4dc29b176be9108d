/-
  The law JsonStays of layer tidegatelaw27 holds of the given program: for every input the call returns true, and the input reads as it did. No condition.
-/
import Derived.Test.YtpelmepidboikaaRows
import Derived.WalkKit
import Derived.ProofKit
import Derived.OpenShut
import Derived.ShutString
import Derived.Test.YtpelmepidboikaaJsonLives
import Derived.Test.YtpelmepidboikaaJsonStay
import Derived.Test.YtpelmepidboikaaEnd
namespace Go.Proofs.Ytpelmepidboikaa.jsonStays
open Go.ChangeShapes Go.WideShapes Go.ChangeAt Go.RowKit Go.Tg Tg.Json 
open Go.ChangeMaps (open_string shut_string)
set_option linter.unusedSimpArgs false
set_option linter.unusedVariables false
set_option linter.unusedVariables false      -- a walk need not use every 'w<i>' (that an integer argument fits its kind)

theorem own : ownKnob Try.prog.godebug = none := by kernel_rfl

/-! ### the walk -/
theorem walk (a0 : ByteArray) (a1 : ByteArray) (a2 : Int) (w0 : a0.size ≤ maxLen) (w1 : a1.size ≤ maxLen) (w2 : (Lit.int .u8 a2).wf = true) (w : World) :
    Calls Try.prog 4 #[.string a0, .string a1, .int .u8 a2] w fun e w' => e = .returned (.bool true) ∧ Below w.heap.size w w' := by
  obtain ⟨hw0, hw1⟩ := bounds_u8 w2
  have HS := Lib.hid w0
  have HM := Lib.hid w1
  clear w0 w1 w2
  go_enter Try.func4, Try.ntmps4
  go_wp2_with fail
  refine (cut_any a0 200 _ HS.out).mono ?_
  rintro e w1 ⟨rfl, rfl⟩
  go_wp2_with fail
  refine (cut_any a1 100 _ HM.out).mono ?_
  rintro e w1 ⟨rfl, rfl⟩
  obtain ⟨s, hs⟩ : ∃ s, s = a0.extract 0 200 := ⟨_, rfl⟩
  obtain ⟨t, ht⟩ : ∃ t, t = a1.extract 0 100 := ⟨_, rfl⟩
  have hsz : s.size ≤ 200 := by rw [hs, ByteArray.size_extract]; omega
  have htz : t.size ≤ 100 := by rw [ht, ByteArray.size_extract]; omega
  rw [← hs, ← ht]
  clear hs ht
  obtain ⟨D, hD⟩ : ∃ D : Nat, (D : Int) = a2 % 20 := ⟨(a2 % 20).toNat, by omega⟩
  have hD20 : D < 20 := by omega
  have HD := Lib.hid hD
  clear hD
  go_wp2_with fail
  rw [← HD.out]
  refine (whole_any s D D _ (by omega) (by omega) (by omega)).mono ?_
  rintro e w2 ⟨rfl, hc1⟩
  have HC1 := Lib.hid hc1
  clear hc1
  go_wp2_with fail
  refine (whole_any (s ++ t) D D _ (by rw [ByteArray.size_append]; omega) (by omega) (by omega)).mono ?_
  rintro e w3 ⟨rfl, hc2⟩
  have hc3 := HC1.out.trans hc2 (fun i h => h.elim)
  have HC3 := Lib.hid hc3
  clear hc2 hc3
  have hst := stays s.data.toList t.data.toList D
  have hss : s.data.toList.length = s.size := rfl
  have hap : (s ++ t).data.toList = s.data.toList ++ t.data.toList := by simp
  rw [hap]
  rw [hss] at hst
  have hsh := whole_shape s.data.toList D
  have hsh2 := whole_shape (s.data.toList ++ t.data.toList) D
  rw [List.length_append, hss, show t.data.toList.length = t.size from rfl] at hsh2
  rw [hss] at hsh
  clear hss hap
  generalize whole s.data.toList D = x at *
  generalize whole (s.data.toList ++ t.data.toList) D = y at *
  obtain ⟨x1, x2⟩ := x
  obtain ⟨y1, y2⟩ := y
  simp only at *
  by_cases h : x1 = 0 ∨ x1 = 3
  · obtain ⟨g1, g2, g3, g4⟩ := hst.1 h
    clear hst hsh hsh2
    subst g1 g2
    rcases h with rfl | rfl
    all_goals
      go_wp2_with (go_at_call 11; refine (lives_any _).mono ?_; rintro e w4 ⟨rfl, hc4⟩)
      go_ret
      exact ⟨rfl, below_of_false (HC3.out.trans hc4 (fun i h => h.elim))⟩
  · obtain ⟨g1, g2⟩ := hst.2 h
    clear hst
    have n0 : ((x1 : Int) == 0) = false := by rw [beq_eq_false_iff_ne]; omega
    have n3 : ((x1 : Int) == 3) = false := by rw [beq_eq_false_iff_ne]; omega
    subst g1
    clear hsh h
    rcases g2 with rfl | g2
    · go_wp2_with (go_at_call 11; refine (lives_any _).mono ?_; rintro e w4 ⟨rfl, hc4⟩)
      go_ret
      exact ⟨rfl, below_of_false (HC3.out.trans hc4 (fun i h => h.elim))⟩
    · have m1 : (y2 == -1) = false := by rw [beq_eq_false_iff_ne]; omega
      clear hsh2
      go_wp2_with (go_at_call 11; refine (lives_any _).mono ?_; rintro e w4 ⟨rfl, hc4⟩)
      go_ret
      exact ⟨rfl, below_of_false (HC3.out.trans hc4 (fun i h => h.elim))⟩

/-! ### THE ROW's STEP: WRITTEN OUT: LEAVE IT -/
set_option maxRecDepth 100000 in
theorem lifted (os : Os) (started : os.Started) (H : Type) (enc : TypeId × Value → H) :
    ReturnsInHanded {} Try.checked os 4 .any (Rows.jsonStaysSpec.pre6 enc Try.prog Try.f4 Rows.jsonStaysRow.domain false) (Rows.jsonStaysSpec.post enc Try.prog Try.f4 false true false false) := by
  refine returnsInHanded_of_change (C := Try.checked) own started (by kernel_rfl) Try.func4
    (ChangeSpec.witness6 (enc := enc) (C := Try.checked) false ⟨#[], #[.string ByteArray.empty, .string ByteArray.empty, .int .u8 0], []⟩ 8 (by kernel_rfl) (by kernel_rfl) (by kernel_rfl) (by kernel_rfl)) ?_
  intro W base args ds gs before hval0 hW hcnd _
  have hval : ∀ (j : Nat) t v, Try.f4.params[j]? = some t → args[j]? = some v → Value.okWide Try.prog W .any base t v := hval0
  have hW' := hW
  obtain ⟨p, q, hA0, hV, rfl, hfz, hnd⟩ := hW
  have hA : DataW.TrodAll enc Try.prog W 0 (fun _ => true) true Try.f4.params.toList args.toList ds p := hA0
  rw [Try.params4] at hA hval
  obtain ⟨v0, vs0, d0, ds0, p0, q0, hargs, rfl, rfl, h0, r0⟩ := trodAll_cons hA
  obtain ⟨v1, vs1, d1, ds1, p1, q1, rfl, rfl, rfl, h1, r1⟩ := trodAll_cons r0
  obtain ⟨v2, vs2, d2, ds2, p2, q2, rfl, rfl, rfl, h2, r2⟩ := trodAll_cons r1
  obtain ⟨rfl, rfl, rfl⟩ := trodAll_nil r2
  obtain rfl : args = #[v0, v1, v2] := by cases args; simp_all
  obtain ⟨rfl, rfl⟩ := trodVars_none hV
  obtain ⟨a0, rfl, rfl, rfl, w0⟩ := open_string Try.underlying9 (hval 0 9 v0 rfl rfl) h0
  obtain ⟨a1, rfl, rfl, rfl, w1⟩ := open_string Try.underlying9 (hval 1 9 v1 rfl rfl) h1
  obtain ⟨a2, rfl, rfl, rfl, w2⟩ := open_int Try.underlying5 (hval 2 5 v2 rfl rfl) h2
  clear hA0 hval0
  simp only [List.append_nil] at hW'
  refine (walk a0 a1 a2 w0 w1 w2 W).mono fun e W' ⟨he, hg⟩ => ?_
  subst he
  exact ⟨_, rfl, post_of_below (pa := []) (pv := []) hW' (fun _ _ _ => (trodAll_cons_mk (shut_bool Try.underlying4 _) trodAll_mk0)) (fun sp _ => (trodAll_cons_mk (shut_string Try.underlying9 w0) (trodAll_cons_mk (shut_string Try.underlying9 w1) (trodAll_cons_mk (shut_int Try.underlying5 w2) trodAll_mk0)))) (fun _ _ => rfl) rfl
    hg (ok_one (by kernel_rfl) rfl (okWide_bool_mk Try.underlying4 _))⟩

theorem over : Rows.jsonStaysRow.holds Try.pinned (OpenSpec.ofChange Rows.jsonStaysSpec) :=
  OpenClaim.holds_of_wide 4 Try.f4 rfl rfl rfl rfl rfl rfl rfl ⟨rfl, rfl, rfl, rfl, rfl⟩ rfl rfl rfl rfl rfl (by kernel_rfl) Try.func4 (by kernel_rfl)
    (of_decide_eq_true (by kernel_rfl)) (by unfold Func.isWrapper; first | (rw [if_pos (by decide +kernel)]; kernel_rfl) | (rw [if_neg (by decide +kernel)]; exact ⟨rfl, rfl⟩))
    (fun os started H enc _ => lifted os started H enc)

/-- ████ THE STATEMENT ████ -/
theorem proved : Rows.JsonStaysSaid :=
  over
end Go.Proofs.Ytpelmepidboikaa.jsonStays
