/-
  The small living call in every statement of layer 27.
-/
import Derived.Test.YtpelmepidboikaaJsonExp
set_option linter.unusedSimpArgs false
set_option linter.unusedVariables false
namespace Go.Proofs.Ytpelmepidboikaa
open Go.RowKit Go.Tg Tg.Json

set_option maxHeartbeats 1000000 in
theorem lives_any (w : World) :
    Calls Try.prog 11 #[] w fun e w' => e = .returned (.bool true) ∧ Change (fun _ => False) w w' := by
  have h1 : whole [91, 49, 44] 5 = (1, -1) := by decide +kernel
  have h2 : whole [91, 49, 32, 50] 5 = (0, 3) := by decide +kernel
  have h3 : (whole [91, 49, 93] 200).1 = 2 := by decide +kernel
  have H1 := Lib.hid h1
  have H2 := Lib.hid h2
  have H3 := Lib.hid h3
  clear h1 h2 h3
  go_enter Try.func11, Try.ntmps11
  go_wp2_with fail
  refine (whole_any ⟨#[91, 49, 44]⟩ 5 5 _ (by decide) (by decide) (by decide)).mono ?_
  rintro e w1 ⟨rfl, hc1⟩
  rw [show (⟨#[91, 49, 44]⟩ : ByteArray).data.toList = [91, 49, 44] from rfl, H1.out]
  have HC1 := Lib.hid hc1
  clear hc1
  go_wp2_with fail
  refine (whole_any ⟨#[91, 49, 32, 50]⟩ 5 5 _ (by decide) (by decide) (by decide)).mono ?_
  rintro e w2 ⟨rfl, hc2⟩
  rw [show (⟨#[91, 49, 32, 50]⟩ : ByteArray).data.toList = [91, 49, 32, 50] from rfl, H2.out]
  have HC2 : Hid (Change (fun _ => False) w w2) := HC1.out.trans hc2 (fun i h => h.elim)
  clear hc2
  go_wp2_with fail
  refine (valid_any ⟨#[91, 49, 93]⟩ _ (by decide)).mono ?_
  rintro e w3 ⟨rfl, hc3⟩
  rw [show (⟨#[91, 49, 93]⟩ : ByteArray).data.toList = [91, 49, 93] from rfl, H3.out]
  have HC3 : Hid (Change (fun _ => False) w w3) := HC2.out.trans hc3 (fun i h => h.elim)
  clear hc3
  go_wp2
  go_ret
  exact ⟨rfl, HC3.out⟩
end Go.Proofs.Ytpelmepidboikaa
