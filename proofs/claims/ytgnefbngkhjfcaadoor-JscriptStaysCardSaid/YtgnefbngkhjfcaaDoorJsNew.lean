/-
  The machine of layer 28 (jscript): a new one.
-/
import Derived.Test.YtgnefbngkhjfcaaDoorJsTell
set_option linter.unusedSimpArgs false
set_option linter.unusedVariables false
set_option maxRecDepth 100000
namespace Go.Proofs.YtgnefbngkhjfcaaDoor
open Go.Lg Tg.Js

section
variable {H : LH}
@[simp] theorem atom_int {k : IntKind} {n : Int} : atomB (.int k n) = true := by simp only [atomB]
@[simp] theorem atom_bool {x : Bool} : atomB (.bool x) = true := by simp only [atomB]
@[simp] theorem atom_str {l : List UInt8} : atomB (str l) = true := by simp only [atomB, str]
@[simp] theorem atom_slice0 : atomB (.slice none 0 0) = true := by simp [atomB]
@[simp] theorem atom_ptr0 : atomB (.pointer none) = true := by simp only [atomB]
@[simp] theorem lfill_cell' {P : Program} {t : TypeId} {cs : List Value} {i : Nat} {q : Nat × Nat × Bool} {v : Value} {ps : List (Nat × Value)} (hf : fldi P t i = some q) (hn : q.2.1 = 1) (hv : cellB v = true) (ho : q.1 < cs.length) : lfill P t cs ((i, v) :: ps) = lfill P t (cs.set q.1 v) ps := by
  obtain ⟨o, n, g⟩ := q
  exact lfill_cell hf hn hv ho
theorem mb_new (d : Int) : (⟨[.int .i64 d, .slice none 0 0, .int .i64 0, .int .u8 0, .bool false, str [], .int .i64 0, .bool false, .bool false, .int .i64 (-1), .int .i64 0, .int .i64 0, .int .i64 0], 53, true⟩ : LB) = mb (new d) (.slice none 0 0) := rfl
theorem new_l {d : Int} (h0 : 0 ≤ d) (h1 : d ≤ 200) : ∃ r, LC Tryd.prog EJ 36 [.int .i64 d] H = some r ∧ r = (.tuple #[ptr H.n 0, .int .i64 0], H.new (mb (new d) (.slice none 0 0))) := by
  obtain ⟨r, h, e⟩ := LC_runs (Q := fun r => r = (.tuple #[ptr H.n 0, .int .i64 0], H.new (mb (new d) (.slice none 0 0)))) (P := Tryd.prog) (E := EJ) (H := H) (args := [.int .i64 d]) rfl Tryd.func36 rfl (Nat.le_of_ble_eq_true rfl) (by decide) (by kernel_rfl) (by
    have f1 : (d < 0) = False := eq_false (by omega)
    have f2 : (200 < d) = False := eq_false (by omega)
    simp (config := { maxSteps := 4000000 }) [f1, f2, mb_new])
  refine ⟨r, ?_, e⟩
  rw [h, e, trunc_not (by simp [flatB, flat1B, atomB])]
end
end Go.Proofs.YtgnefbngkhjfcaaDoor
