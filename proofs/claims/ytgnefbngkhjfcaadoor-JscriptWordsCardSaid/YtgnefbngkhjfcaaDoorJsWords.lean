/-
  The laws of layer 28 (jscript): words.
-/
import Derived.Test.YtgnefbngkhjfcaaDoorJsLaws
import Derived.Test.YtgnefbngkhjfcaaDoorLgMore
set_option linter.unusedSimpArgs false
set_option linter.unusedVariables false
set_option maxRecDepth 100000
namespace Go.Proofs.YtgnefbngkhjfcaaDoor
open Go.Lg Tg.Js

section
variable {H : LH} {s : List UInt8}
theorem kws_lit : keywords = [[97, 119, 97, 105, 116], [98, 114, 101, 97, 107], [99, 97, 115, 101], [99, 97, 116, 99, 104], [99, 108, 97, 115, 115], [99, 111, 110, 115, 116], [99, 111, 110, 116, 105, 110, 117, 101], [100, 101, 102, 97, 117, 108, 116], [100, 101, 108, 101, 116, 101], [100, 111], [101, 108, 115, 101], [101, 120, 112, 111, 114, 116], [101, 120, 116, 101, 110, 100, 115], [102, 105, 110, 97, 108, 108, 121], [102, 111, 114], [102, 114, 111, 109], [102, 117, 110, 99, 116, 105, 111, 110], [103, 101, 116], [105, 102], [105, 109, 112, 111, 114, 116], [105, 110], [105, 110, 115, 116, 97, 110, 99, 101, 111, 102], [108, 101, 116], [110, 101, 119], [111, 102], [114, 101, 116, 117, 114, 110], [115, 101, 116], [115, 116, 97, 116, 105, 99], [115, 119, 105, 116, 99, 104], [116, 104, 114, 111, 119], [116, 114, 121], [116, 121, 112, 101, 111, 102], [118, 97, 114], [118, 111, 105, 100], [119, 104, 105, 108, 101], [119, 105, 116, 104], [121, 105, 101, 108, 100], [97, 115, 121, 110, 99], [97, 115]] := by decide +kernel
theorem kws_cells : [str [97, 119, 97, 105, 116], str [98, 114, 101, 97, 107], str [99, 97, 115, 101], str [99, 97, 116, 99, 104], str [99, 108, 97, 115, 115], str [99, 111, 110, 115, 116], str [99, 111, 110, 116, 105, 110, 117, 101], str [100, 101, 102, 97, 117, 108, 116], str [100, 101, 108, 101, 116, 101], str [100, 111], str [101, 108, 115, 101], str [101, 120, 112, 111, 114, 116], str [101, 120, 116, 101, 110, 100, 115], str [102, 105, 110, 97, 108, 108, 121], str [102, 111, 114], str [102, 114, 111, 109], str [102, 117, 110, 99, 116, 105, 111, 110], str [103, 101, 116], str [105, 102], str [105, 109, 112, 111, 114, 116], str [105, 110], str [105, 110, 115, 116, 97, 110, 99, 101, 111, 102], str [108, 101, 116], str [110, 101, 119], str [111, 102], str [114, 101, 116, 117, 114, 110], str [115, 101, 116], str [115, 116, 97, 116, 105, 99], str [115, 119, 105, 116, 99, 104], str [116, 104, 114, 111, 119], str [116, 114, 121], str [116, 121, 112, 101, 111, 102], str [118, 97, 114], str [118, 111, 105, 100], str [119, 104, 105, 108, 101], str [119, 105, 116, 104], str [121, 105, 101, 108, 100], str [97, 115, 121, 110, 99], str [97, 115]] = keywords.map str := by rw [kws_lit]; rfl
set_option maxHeartbeats 2000000 in
theorem refKeyword_l (hd : ∀ l, H.n ≤ l → H.get l = none) : LC Tryd.prog EJ 14 [str s] H = some (.bool (isKeyword s), H) := by
  refine LC_pure rfl Tryd.func14 rfl (Nat.le_of_ble_eq_true rfl) (by decide) (by kernel_rfl) rfl ?_
  simp (config := { maxSteps := 4000000 }) [kws_cells]
  refine loop_ind (fun (i : Nat) fr' H' => fr' 0 = str s ∧ fr' 3 = sl H.n 39 39 ∧ fr' 4 = .int .i64 i ∧ i ≤ 39 ∧ (keywords.take i).contains s = false ∧ H' = H.new ⟨keywords.map str, 9, true⟩) (fun i => 39 - i) 0 ?_ ?_
  · exact ⟨by simp, by simp, by simp, by omega, by simp, rfl⟩
  rintro i fr' H' ⟨h0, h3, h4, hi, hc, rfl⟩ ih
  have hle : H.le (H.new ⟨keywords.map str, 9, true⟩) := le_refl.new
  by_cases hlt : (i : Int) < 39
  · have f := eq_true hlt
    have hlen : i < keywords.length := by rw [kw_len]; omega
    have hx : (keywords.map str)[i]? = some (str keywords[i]) := by simp [hlen]
    have hw : IntKind.i64.wrap ((i : Int) + 1) = ((i + 1 : Nat) : Int) := by rw [wrap64_in (by omega) (by omega)]; omega
    have ht : (keywords.take (i + 1)).contains s = (decide (keywords[i] = s)) := by
      rw [List.take_succ_eq_append_getElem hlen]
      simp only [List.contains_eq_mem, List.mem_append, List.mem_singleton] at hc ⊢
      simp at hc
      simp [hc, eq_comm]
    by_cases hs : keywords[i] = s
    · have hk : isKeyword s = true := by
        unfold isKeyword
        rw [List.contains_iff_mem]
        rw [← hs]; exact List.getElem_mem hlen
      have fs := eq_true hs
      simp (config := { maxSteps := 4000000 }) [h0, h3, h4, f, hx, fs, hk, hle]
    · have fs := eq_false hs
      simp (config := { maxSteps := 4000000 }) [h0, h3, h4, f, hx, fs, hw]
      refine ih (i + 1) _ _ (by omega) ⟨by simp [h0], by simp [h3], by simp, by omega, ?_, rfl⟩
      rw [ht]; simp [hs]
  · have f := eq_false hlt
    have hk : isKeyword s = false := by
      unfold isKeyword
      rw [List.take_of_length_le (by rw [kw_len]; omega)] at hc
      exact hc
    simp (config := { maxSteps := 4000000 }) [h0, h3, h4, f, hk, hle]
theorem words_l (hd : ∀ l, H.n ≤ l → H.get l = none) (ht : Tab H) : LC Tryd.prog EJ 4 [str s] H = some (.bool true, H) := by
  refine LC_pure rfl Tryd.func4 rfl (Nat.le_of_ble_eq_true rfl) (by decide) (by kernel_rfl) rfl ?_
  have hs := cut_l (H := H) (s := s) (k := 40) (by decide)
  generalize s.take (40 : Int).toNat = s' at *
  have h1 := Keyword_l (s := s') ht
  have h2 := refKeyword_l (s := s') hd
  have h7 := lives_l hd ht
  simp [hs, h1, h2, h7]
end
end Go.Proofs.YtgnefbngkhjfcaaDoor
