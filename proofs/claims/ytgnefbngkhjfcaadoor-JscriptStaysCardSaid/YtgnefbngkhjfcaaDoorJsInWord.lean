/-
  The machine of layer 28 (jscript): a byte within a word.
-/
import Derived.Test.YtgnefbngkhjfcaaDoorJsByteB
set_option linter.unusedSimpArgs false
set_option linter.unusedVariables false
set_option maxRecDepth 100000
namespace Go.Proofs.YtgnefbngkhjfcaaDoor
open Go.Lg Tg.Js

section
variable {N p : Nat} {H H' H1 : LH} {m m' m1 : M} {v v' : Value} {b : UInt8}
theorem inWord_ex (h : At N p H m v) (ht : Tab H) : ∃ H', LC Tryd.prog EJ 53 [ptr p 0, .int .u8 b.toNat] H = some (.tuple #[], H') ∧ Post N p H (m.inWord b) H' := by
  refine meth_ex rfl Tryd.func53 rfl (Nat.le_of_ble_eq_true rfl) (by decide) (by kernel_rfl) h ?_
  have hg := h.get
  have hp := h.lt
  have hi := fun H => inner_l (H := H) (b := b)
  have hkw := fun s => isKeyword_l (s := s) ht
  have hcb : lconv Tryd.prog 38 9 (sl H.n 1 1) (H.new ⟨[.int .u8 b.toNat], 5, true⟩) = some (str [b]) := conv_b (H0 := H)
  have hgn : ∀ B, (H.new B).get p = some (mb m v) := fun B => by rw [get_new_ne (by omega)]; exact hg
  have grow : ∀ (hc : inner b = true ∨ m.at_ = 2 ∧ b = 46), m.inWord b = if (m.said.length : Int) ≤ 10 then { m with said := m.said ++ [b] } else m := fun hc => by
    unfold M.inWord; rw [if_pos hc]
  have hkr := fun s => isKeyword_l (H := H.ro) (s := s) ht
  have en := fun m'' g1 g2 => h.setPost (m' := m'') g1 g2
  have hla : ∀ (hc : (m.said.length : Int) ≤ 10), (m.said.length + 1 ≤ 9223372036854775807) = True := fun hc => eq_true (by omega)
  have bad : ∀ (c1 : inner b = false) (c2 : ¬ (m.at_ = 2 ∧ b = 46)), m.inWord b = if m.at_ = 1 ∧ isKeyword m.said then (m.ended 3).begin b else (m.ended 1).begin b := fun c1 c2 => by
    unfold M.inWord; rw [if_neg (fun hc => by rcases hc with hc | hc; (rw [c1] at hc; cases hc); exact c2 hc)]
  by_cases c1 : inner b = true
  · rw [grow (.inl c1)]
    by_cases c2 : (m.said.length : Int) ≤ 10
    · have f2 := eq_true c2
      rw [if_pos c2]
      simp (config := { maxSteps := 4000000 }) [hg, hp, hi, c1, f2, hcb, hgn, hla c2]
      exact h.newPost' rfl rfl
    · have f2 := eq_false c2
      rw [if_neg c2]
      simp (config := { maxSteps := 4000000 }) [hg, hp, hi, c1, f2]
      exact h.post
  rw [Bool.not_eq_true] at c1
  by_cases c3 : m.at_ = 2
  · by_cases c4 : b = 46
    · have f4 := eq_true c4
      rw [grow (.inr ⟨c3, c4⟩)]
      by_cases c2 : (m.said.length : Int) ≤ 10
      · have f2 := eq_true c2
        rw [if_pos c2]
        simp (config := { maxSteps := 4000000 }) [hg, hp, hi, c1, c3, f4, f2, hcb, hgn, hla c2]
        exact h.newPost' rfl rfl
      · have f2 := eq_false c2
        rw [if_neg c2]
        simp (config := { maxSteps := 4000000 }) [hg, hp, hi, c1, c3, f4, f2]
        exact h.post
    · have f4 := eq_false c4
      have h1 := en (m.ended 1) rfl rfl
      obtain ⟨⟨v1, a1⟩, _⟩ := id h1
      obtain ⟨H2, e2, p2⟩ := begin_ex (b := b) a1
      rw [bad c1 (fun hc => c4 hc.2), if_neg (fun hc => by have := hc.1; omega)]
      have hl := ended_l (l := 1) hg hp
      simp (config := { maxSteps := 4000000 }) [hg, hp, hi, c1, c3, f4, hl, e2]
      exact h1.trans p2
  · have f3 := eq_false c3
    by_cases c5 : m.at_ = 1 ∧ isKeyword m.said = true
    · have h1 := en (m.ended 3) rfl rfl
      obtain ⟨⟨v1, a1⟩, _⟩ := id h1
      obtain ⟨H2, e2, p2⟩ := begin_ex (b := b) a1
      rw [bad c1 (fun hc => c3 hc.1), if_pos c5]
      have hl := ended_l (l := 3) hg hp
      simp (config := { maxSteps := 4000000 }) [hg, hp, hi, c1, c5.1, hkw, hkr, c5.2, hl, e2]
      exact h1.trans p2
    · have h1 := en (m.ended 1) rfl rfl
      obtain ⟨⟨v1, a1⟩, _⟩ := id h1
      obtain ⟨H2, e2, p2⟩ := begin_ex (b := b) a1
      rw [bad c1 (fun hc => c3 hc.1), if_neg c5]
      have hl := ended_l (l := 1) hg hp
      by_cases c6 : m.at_ = 1
      · have c7 : isKeyword m.said = false := by
          cases hk : isKeyword m.said with
          | true => exact absurd ⟨c6, hk⟩ c5
          | false => rfl
        simp (config := { maxSteps := 4000000 }) [hg, hp, hi, c1, c6, hkw, hkr, c7, hl, e2]
        exact h1.trans p2
      · have f6 := eq_false c6
        simp (config := { maxSteps := 4000000 }) [hg, hp, hi, c1, f3, f6, hkw, hkr, hl, e2]
        exact h1.trans p2
end
end Go.Proofs.YtgnefbngkhjfcaaDoor
