/-
  The machine of layer 28 (jscript): what its judges of bytes come to.
-/
import Derived.Test.YtgnefbngkhjfcaaDoorJsLib
set_option linter.unusedSimpArgs false
set_option linter.unusedVariables false
namespace Go.Proofs.YtgnefbngkhjfcaaDoor
open Go.Lg Tg.Js

section
variable {H : LH} {b : UInt8}
theorem digit_in : LC Tryd.prog EJ 97 [.int .u8 b.toNat] H = some (.bool (digit b), H) := by
  refine LC_pure rfl Tryd.func97 rfl (Nat.le_of_ble_eq_true rfl) (by decide) (by kernel_rfl) rfl ?_
  simp +contextual [digit, -Int.not_le, -Int.not_lt]
theorem digit_l : LC Tryd.prog EJ 81 [.int .u8 b.toNat] H = some (.bool (digit b), H) := by
  refine LC_pure rfl Tryd.func81 rfl (Nat.le_of_ble_eq_true rfl) (by decide) (by kernel_rfl) rfl ?_
  simp +contextual [digit_in, -Int.not_le, -Int.not_lt]
theorem small_l : LC Tryd.prog EJ 128 [.int .u8 b.toNat] H = some (.bool (decide (97 ≤ (b.toNat : Int)) && decide ((b.toNat : Int) ≤ 122)), H) := by
  refine LC_pure rfl Tryd.func128 rfl (Nat.le_of_ble_eq_true rfl) (by decide) (by kernel_rfl) rfl ?_
  simp +contextual [-Int.not_le, -Int.not_lt]
theorem great_l : LC Tryd.prog EJ 129 [.int .u8 b.toNat] H = some (.bool (decide (65 ≤ (b.toNat : Int)) && decide ((b.toNat : Int) ≤ 90)), H) := by
  refine LC_pure rfl Tryd.func129 rfl (Nat.le_of_ble_eq_true rfl) (by decide) (by kernel_rfl) rfl ?_
  simp +contextual [-Int.not_le, -Int.not_lt]
theorem letter_in : LC Tryd.prog EJ 116 [.int .u8 b.toNat] H = some (.bool (letter b), H) := by
  refine LC_pure rfl Tryd.func116 rfl (Nat.le_of_ble_eq_true rfl) (by decide) (by kernel_rfl) rfl ?_
  simp +contextual [letter, small_l, great_l, -Int.not_le, -Int.not_lt]
theorem letter_l : LC Tryd.prog EJ 96 [.int .u8 b.toNat] H = some (.bool (letter b), H) := by
  refine LC_pure rfl Tryd.func96 rfl (Nat.le_of_ble_eq_true rfl) (by decide) (by kernel_rfl) rfl ?_
  simp +contextual [letter_in, -Int.not_le, -Int.not_lt]
theorem feed_l : LC Tryd.prog EJ 75 [.int .u8 b.toNat] H = some (.bool (feedB b), H) := by
  refine LC_pure rfl Tryd.func75 rfl (Nat.le_of_ble_eq_true rfl) (by decide) (by kernel_rfl) rfl ?_
  simp +contextual [feedB, -Int.not_le, -Int.not_lt]
theorem white_l : LC Tryd.prog EJ 76 [.int .u8 b.toNat] H = some (.bool (white b), H) := by
  refine LC_pure rfl Tryd.func76 rfl (Nat.le_of_ble_eq_true rfl) (by decide) (by kernel_rfl) rfl ?_
  simp +contextual [white, -Int.not_le, -Int.not_lt]
theorem inner_l : LC Tryd.prog EJ 77 [.int .u8 b.toNat] H = some (.bool (inner b), H) := by
  refine LC_pure rfl Tryd.func77 rfl (Nat.le_of_ble_eq_true rfl) (by decide) (by kernel_rfl) rfl ?_
  simp (config := { maxSteps := 2000000 }) +contextual [inner, letter_l, digit_l, -Int.not_le, -Int.not_lt]
theorem pair_l : LC Tryd.prog EJ 118 [.int .u8 b.toNat] H = some (.int .u8 (M.pair b).toNat, H) := by
  refine LC_pure rfl Tryd.func118 rfl (Nat.le_of_ble_eq_true rfl) (by decide) (by kernel_rfl) rfl ?_
  simp +contextual [M.pair, -Int.not_le, -Int.not_lt]
end
end Go.Proofs.YtgnefbngkhjfcaaDoor
