/-
  The machine of layer 28 (jscript): what it tells.
-/
import Derived.Test.YtgnefbngkhjfcaaDoorJsByteB
import Derived.Test.YtgnefbngkhjfcaaDoorLgQui
set_option linter.unusedSimpArgs false
set_option linter.unusedVariables false
set_option maxRecDepth 100000
namespace Go.Proofs.YtgnefbngkhjfcaaDoor
open Go.Lg Tg.Js

section
variable {H : LH} {b : UInt8} {l n : Nat} {B : LB} {xs : List Int} {s : Int}
/-- where a number stands first among others, from a place on -/
def findI (s : Int) : List Int → Int → Int
  | [], _ => -1
  | x :: xs, k => if s = x then k else findI s xs (k + 1)
theorem indexI_l (h : H.get l = some B) (hb : B.cells = xs.map (Value.int .i64)) (hn : xs.length ≤ 1048576) : LC Tryd.prog EJ 72 [sl l xs.length n, Value.int .i64 s] H = some (.int .i64 (findI s xs 0), H) := by
  refine LC_pure rfl Tryd.func72 rfl (Nat.le_of_ble_eq_true rfl) (by decide) (by kernel_rfl) rfl ?_
  simp +contextual
  refine loop_ind (fun (i : Nat) fr' H' => fr' 0 = sl l xs.length n ∧ fr' 1 = Value.int .i64 s ∧ fr' 7 = .int .i64 xs.length ∧ fr' 8 = .int .i64 i ∧ i ≤ xs.length ∧ findI s (xs.drop i) i = findI s xs 0 ∧ H' = H) (fun i => xs.length - i) 0 (by simp) ?_
  rintro i fr' H' ⟨h0, h1, h7, h8, hi, hh, rfl⟩ ih
  by_cases hlt : i < xs.length
  · obtain ⟨x, hx⟩ : ∃ x, xs[i]? = some x := ⟨_, List.getElem?_eq_getElem hlt⟩
    have hd : xs.drop i = x :: xs.drop (i + 1) := by
      rw [List.drop_eq_getElem_cons hlt]
      rw [List.getElem?_eq_getElem hlt] at hx
      injection hx with hx
      rw [hx]
    have hc : B.cells[i]? = some (Value.int .i64 x) := by rw [hb]; simp [hx]
    have hw : IntKind.i64.wrap ((i : Int) + 1) = ((i + 1 : Nat) : Int) := by rw [wrap64_in (by omega) (by omega)]; omega
    rw [hd, findI] at hh
    by_cases hs : s = x
    · have hs' : (s = x) = True := eq_true hs
      rw [if_pos hs] at hh
      simp [h0, h1, h7, h8, hlt, h, hc, hs', ← hh]
    · have hs' : (s = x) = False := eq_false hs
      rw [if_neg hs] at hh
      simp [h0, h1, h7, h8, hlt, h, hc, hs', hw]
      exact ih (i + 1) _ _ (by omega) ⟨by simp [h0], by simp [h1], by simp [h7], by simp, hlt, by simpa using hh, rfl⟩
  · have hd : xs.drop i = [] := List.drop_eq_nil_of_le (by omega)
    rw [hd, findI] at hh
    simp [h0, h1, h7, h8, hlt, ← hh]
theorem findI_mem : ∀ (xs : List Int) (k : Int), 0 ≤ k → (0 ≤ findI s xs k ↔ s ∈ xs)
  | [], k, h => by simp [findI]
  | x :: xs, k, h => by
    unfold findI
    by_cases hs : s = x
    · simp [hs, h]
    · rw [if_neg hs, findI_mem xs (k + 1) (by omega)]; simp [hs]
theorem containsI_l (h : H.get l = some B) (hb : B.cells = xs.map (Value.int .i64)) (hn : xs.length ≤ 1048576) : LC Tryd.prog EJ 49 [sl l xs.length n, Value.int .i64 s] H = some (.bool (xs.contains s), H) := by
  refine LC_pure rfl Tryd.func49 rfl (Nat.le_of_ble_eq_true rfl) (by decide) (by kernel_rfl) rfl ?_
  have hi := indexI_l (s := s) (n := n) h hb hn
  have := findI_mem (s := s) xs 0 (by decide)
  simp [hi, this]
theorem tell_g {p : Nat} {m : M} {v : Value} {B0 : LB} (hg : H.get p = some B0) (hc0 : B0.cells = (mb m v).cells) (hp : p < H.n) (hl : ∀ H', lbuiltin Tryd.prog .len [38] [v] H' = some (.int .i64 (m.stack.map bv).length, H')) : LC Tryd.prog EJ 37 [ptr p 0] H = some (.int .i64 m.tell, H) := by
  refine LC_pure rfl Tryd.func37 rfl (Nat.le_of_ble_eq_true rfl) (by decide) (by kernel_rfl) rfl ?_
  have hgn : ∀ B, (H.new B).get p = some B0 := fun B => by rw [get_new_ne (by omega)]; exact hg
  by_cases c1 : m.bad = true
  · simp (config := { maxSteps := 4000000 }) [hg, hc0, hp, c1, M.tell]
  · rw [Bool.not_eq_true] at c1
    by_cases c2 : m.stack = []
    · have f2 := eq_true c2
      have hc : LC Tryd.prog EJ 49 [sl H.n 5 5, .int .i64 m.at_] (H.new ⟨[.int .i64 0, .int .i64 1, .int .i64 2, .int .i64 8, .int .i64 10], 3, true⟩) = some (.bool (([0, 1, 2, 8, 10] : List Int).contains m.at_), H.new ⟨[.int .i64 0, .int .i64 1, .int .i64 2, .int .i64 8, .int .i64 10], 3, true⟩) :=
        containsI_l (l := H.n) (n := 5) (s := m.at_) (xs := [0, 1, 2, 8, 10]) get_new rfl (by decide)
      by_cases c3 : (([0, 1, 2, 8, 10] : List Int).contains m.at_) = true
      · have e : m.tell = 2 := by
          unfold M.tell; rw [c1, if_neg (by simp), if_pos ⟨c2, by simpa using c3⟩]
        rw [c3] at hc
        simp (config := { maxSteps := 4000000 }) [hg, hc0, hp, c1, hl, f2, hgn, hc, e, le_refl.new]
      · rw [Bool.not_eq_true] at c3
        have e : m.tell = 1 := by
          unfold M.tell; rw [c1, if_neg (by simp), if_neg (fun hh => by
            have h2 := hh.2
            have : (([0, 1, 2, 8, 10] : List Int).contains m.at_) = true := by simpa using h2
            rw [this] at c3; cases c3)]
        rw [c3] at hc
        simp (config := { maxSteps := 4000000 }) [hg, hc0, hp, c1, hl, f2, hgn, hc, e, le_refl.new]
    · have f2 := eq_false c2
      simp (config := { maxSteps := 4000000 }) [hg, hc0, hp, c1, hl, f2, hgn, M.tell]
theorem tell_l {N p : Nat} {m : M} {v : Value} (h : At N p H m v) : LC Tryd.prog EJ 37 [ptr p 0] H = some (.int .i64 m.tell, H) :=
  tell_g h.get rfl h.lt (fun H' => h.row.len (H' := H') Tryd.underlying38)
theorem tell_ro {N p : Nat} {m : M} {v : Value} (h : At N p H m v) : LC Tryd.prog EJ 37 [ptr p 0] H.ro = some (.int .i64 m.tell, H.ro) :=
  tell_g (B0 := { mb m v with rw := false }) (by rw [get_ro, h.get]; rfl) rfl h.lt (fun H' => h.row.len (H' := H') Tryd.underlying38)
end
end Go.Proofs.YtgnefbngkhjfcaaDoor
