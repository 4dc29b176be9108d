/-
  The machine of layer 28 (jscript): its words.
-/
import Derived.Test.YtgnefbngkhjfcaaDoorJsPure
import Derived.Test.YtgnefbngkhjfcaaDoorLgQui
set_option linter.unusedSimpArgs false
set_option linter.unusedVariables false
set_option maxRecDepth 100000
namespace Go.Proofs.YtgnefbngkhjfcaaDoor
open Go.Lg Tg.Js

section
variable {H : LH} {b : UInt8} {l n : Nat} {B : LB} {xs : List (List UInt8)} {s : List UInt8}
theorem trunc_not {v : Value} {H' : LH} (h : flatB v = false) : trunc H (v, H') = (v, H') := by
  unfold trunc; rw [if_neg (by simp [h])]
theorem kw_lit : kwText = [97, 119, 97, 105, 116, 32, 98, 114, 101, 97, 107, 32, 99, 97, 115, 101, 32, 99, 97, 116, 99, 104, 32, 99, 108, 97, 115, 115, 32, 99, 111, 110, 115, 116, 32, 99, 111, 110, 116, 105, 110, 117, 101, 32, 100, 101, 102, 97, 117, 108, 116, 32, 100, 101, 108, 101, 116, 101, 32, 100, 111, 32, 101, 108, 115, 101, 32, 101, 120, 112, 111, 114, 116, 32, 101, 120, 116, 101, 110, 100, 115, 32, 102, 105, 110, 97, 108, 108, 121, 32, 102, 111, 114, 32, 102, 114, 111, 109, 32, 102, 117, 110, 99, 116, 105, 111, 110, 32, 103, 101, 116, 32, 105, 102, 32, 105, 109, 112, 111, 114, 116, 32, 105, 110, 32, 105, 110, 115, 116, 97, 110, 99, 101, 111, 102, 32, 108, 101, 116, 32, 110, 101, 119, 32, 111, 102, 32, 114, 101, 116, 117, 114, 110, 32, 115, 101, 116, 32, 115, 116, 97, 116, 105, 99, 32, 115, 119, 105, 116, 99, 104, 32, 116, 104, 114, 111, 119, 32, 116, 114, 121, 32, 116, 121, 112, 101, 111, 102, 32, 118, 97, 114, 32, 118, 111, 105, 100, 32, 119, 104, 105, 108, 101, 32, 119, 105, 116, 104, 32, 121, 105, 101, 108, 100, 32, 97, 115, 121, 110, 99, 32, 97, 115] := by decide +kernel
theorem fields_k (ht : Tab H) : LC Tryd.prog EJ 74 [str [97, 119, 97, 105, 116, 32, 98, 114, 101, 97, 107, 32, 99, 97, 115, 101, 32, 99, 97, 116, 99, 104, 32, 99, 108, 97, 115, 115, 32, 99, 111, 110, 115, 116, 32, 99, 111, 110, 116, 105, 110, 117, 101, 32, 100, 101, 102, 97, 117, 108, 116, 32, 100, 101, 108, 101, 116, 101, 32, 100, 111, 32, 101, 108, 115, 101, 32, 101, 120, 112, 111, 114, 116, 32, 101, 120, 116, 101, 110, 100, 115, 32, 102, 105, 110, 97, 108, 108, 121, 32, 102, 111, 114, 32, 102, 114, 111, 109, 32, 102, 117, 110, 99, 116, 105, 111, 110, 32, 103, 101, 116, 32, 105, 102, 32, 105, 109, 112, 111, 114, 116, 32, 105, 110, 32, 105, 110, 115, 116, 97, 110, 99, 101, 111, 102, 32, 108, 101, 116, 32, 110, 101, 119, 32, 111, 102, 32, 114, 101, 116, 117, 114, 110, 32, 115, 101, 116, 32, 115, 116, 97, 116, 105, 99, 32, 115, 119, 105, 116, 99, 104, 32, 116, 104, 114, 111, 119, 32, 116, 114, 121, 32, 116, 121, 112, 101, 111, 102, 32, 118, 97, 114, 32, 118, 111, 105, 100, 32, 119, 104, 105, 108, 101, 32, 119, 105, 116, 104, 32, 121, 105, 101, 108, 100, 32, 97, 115, 121, 110, 99, 32, 97, 115]] H = some (sl H.n 39 39, H.new ⟨keywords.map str, 9, true⟩) := by
  rw [← kw_lit]; exact fields_l ht
theorem keywords_l (ht : Tab H) : LC Tryd.prog EJ 51 [] H = some (sl H.n 39 39, H.new ⟨keywords.map str, 9, true⟩) := by
  obtain ⟨r, h, e⟩ := LC_runs (Q := fun r => r = (sl H.n 39 39, H.new ⟨keywords.map str, 9, true⟩)) (P := Tryd.prog) (E := EJ) (H := H) (args := []) rfl Tryd.func51 rfl (Nat.le_of_ble_eq_true rfl) (by decide) (by kernel_rfl) (by simp [fields_k ht])
  rw [h, e, trunc_not (by simp [flatB, flat1B, atomB])]
/-- where a text stands first among others, from a place on -/
def find (s : List UInt8) : List (List UInt8) → Int → Int
  | [], _ => -1
  | x :: xs, k => if s = x then k else find s xs (k + 1)
theorem index_l (h : H.get l = some B) (hb : B.cells = xs.map str) (hn : xs.length ≤ 1048576) : LC Tryd.prog EJ 73 [sl l xs.length n, str s] H = some (.int .i64 (find s xs 0), H) := by
  refine LC_pure rfl Tryd.func73 rfl (Nat.le_of_ble_eq_true rfl) (by decide) (by kernel_rfl) rfl ?_
  simp +contextual
  refine loop_ind (fun (i : Nat) fr' H' => fr' 0 = sl l xs.length n ∧ fr' 1 = str s ∧ fr' 7 = .int .i64 xs.length ∧ fr' 8 = .int .i64 i ∧ i ≤ xs.length ∧ find s (xs.drop i) i = find s xs 0 ∧ H' = H) (fun i => xs.length - i) 0 (by simp) ?_
  rintro i fr' H' ⟨h0, h1, h7, h8, hi, hh, rfl⟩ ih
  by_cases hlt : i < xs.length
  · obtain ⟨x, hx⟩ : ∃ x, xs[i]? = some x := ⟨_, List.getElem?_eq_getElem hlt⟩
    have hd : xs.drop i = x :: xs.drop (i + 1) := by
      rw [List.drop_eq_getElem_cons hlt]
      rw [List.getElem?_eq_getElem hlt] at hx
      injection hx with hx
      rw [hx]
    have hc : B.cells[i]? = some (str x) := by rw [hb]; simp [hx]
    have hw : IntKind.i64.wrap ((i : Int) + 1) = ((i + 1 : Nat) : Int) := by rw [wrap64_in (by omega) (by omega)]; omega
    rw [hd, find] at hh
    by_cases hs : s = x
    · have hs' : (s = x) = True := eq_true hs
      rw [if_pos hs] at hh
      simp [h0, h1, h7, h8, hlt, h, hc, hs', ← hh]
    · have hs' : (s = x) = False := eq_false hs
      rw [if_neg hs] at hh
      simp [h0, h1, h7, h8, hlt, h, hc, hs', hw]
      exact ih (i + 1) _ _ (by omega) ⟨by simp [h0], by simp [h1], by simp [h7], by simp, hlt, by simpa using hh, rfl⟩
  · have hd : xs.drop i = [] := List.drop_eq_nil_of_le (by omega)
    rw [hd, find] at hh
    simp [h0, h1, h7, h8, hlt, ← hh]
theorem find_mem : ∀ (xs : List (List UInt8)) (k : Int), 0 ≤ k → (0 ≤ find s xs k ↔ s ∈ xs)
  | [], k, h => by simp [find]
  | x :: xs, k, h => by
    unfold find
    by_cases hs : s = x
    · simp [hs, h]
    · rw [if_neg hs, find_mem xs (k + 1) (by omega)]; simp [hs]
theorem contains_l (h : H.get l = some B) (hb : B.cells = xs.map str) (hn : xs.length ≤ 1048576) : LC Tryd.prog EJ 50 [sl l xs.length n, str s] H = some (.bool (xs.contains s), H) := by
  refine LC_pure rfl Tryd.func50 rfl (Nat.le_of_ble_eq_true rfl) (by decide) (by kernel_rfl) rfl ?_
  have hi := index_l (s := s) (n := n) h hb hn
  have := find_mem (s := s) xs 0 (by decide)
  simp [hi, this]
theorem kw_len : keywords.length = 39 := by decide +kernel
theorem isKeyword_l (ht : Tab H) : LC Tryd.prog EJ 38 [str s] H = some (.bool (isKeyword s), H) := by
  refine LC_pure rfl Tryd.func38 rfl (Nat.le_of_ble_eq_true rfl) (by decide) (by kernel_rfl) rfl ?_
  have hk := keywords_l ht
  have hc := contains_l (H := H.new ⟨keywords.map str, 9, true⟩) (l := H.n) (n := 39) (s := s) (xs := keywords) get_new rfl (by rw [kw_len]; decide)
  rw [kw_len] at hc
  simp [hk, hc, isKeyword, le_refl.new]
end
end Go.Proofs.YtgnefbngkhjfcaaDoor
