/-
  The machine of layer 28 (jscript): a byte.
-/
import Derived.Test.YtgnefbngkhjfcaaDoorJsStack
import Derived.Test.YtgnefbngkhjfcaaDoorJsWord
set_option linter.unusedSimpArgs false
set_option linter.unusedVariables false
set_option maxRecDepth 100000
namespace Go.Proofs.YtgnefbngkhjfcaaDoor
open Go.Lg Tg.Js

section
variable {N p : Nat} {H H' H1 : LH} {m m' m1 : M} {v v' : Value} {b : UInt8}
theorem signs_lit : signs = [123, 125, 40, 41, 91, 93, 59, 44, 60, 62, 61, 33, 43, 45, 42, 47, 37, 38, 124, 94, 126, 63, 58, 46] := by decide +kernel
theorem signs_l : LC Tryd.prog EJ 82 [str [123, 125, 40, 41, 91, 93, 59, 44, 60, 62, 61, 33, 43, 45, 42, 47, 37, 38, 124, 94, 126, 63, 58, 46], .int .u8 b.toNat] H = some (.int .i64 (Lib.indexByte signs b), H) := by
  rw [← signs_lit]; exact indexByte_l
set_option maxHeartbeats 4000000 in
theorem sign_ex (h : At N p H m v) : ∃ H', LC Tryd.prog EJ 83 [ptr p 0, .int .u8 b.toNat] H = some (.tuple #[], H') ∧ Post N p H (m.sign b) H' := by
  refine meth_ex rfl Tryd.func83 rfl (Nat.le_of_ble_eq_true rfl) (by decide) (by kernel_rfl) h ?_
  have hg := h.get
  have hp := h.lt
  have h1 := h.set (m' := m.piece) rfl rfl
  have hq := h.setPost (m' := m.piece) rfl rfl
  obtain ⟨Hu, eu, pu⟩ := push_ex (b := b) h1
  obtain ⟨Ho, eo, po⟩ := pop_ex (b := b) h1
  have pu' := hq.trans pu
  have po' := hq.trans po
  have hpc := piece_l hg hp
  have hl := fun H' => h.row.len (H' := H') Tryd.underlying38
  have hen := fun m l => ended_s (H := H) (m := m) (v := v) (l := l) hp
  by_cases c1 : b = 40 ∨ b = 91 ∨ b = 123
  · have e : m.sign b = m.piece.push b := by unfold M.sign; rw [if_pos c1]
    rw [e]
    rcases c1 with c | c | c
    · have f40 : (b = 40) = True := eq_true c
      have f91 : (b = 91) = False := eq_false (by rw [c]; decide)
      have f123 : (b = 123) = False := eq_false (by rw [c]; decide)
      have f41 : (b = 41) = False := eq_false (by rw [c]; decide)
      have f93 : (b = 93) = False := eq_false (by rw [c]; decide)
      have f125 : (b = 125) = False := eq_false (by rw [c]; decide)
      have f59 : (b = 59) = False := eq_false (by rw [c]; decide)
      simp (config := { maxSteps := 4000000 }) [hpc, eu, f40, f91, f123, f41, f93, f125, f59, pu']
    · have f40 : (b = 40) = False := eq_false (by rw [c]; decide)
      have f91 : (b = 91) = True := eq_true c
      have f123 : (b = 123) = False := eq_false (by rw [c]; decide)
      have f41 : (b = 41) = False := eq_false (by rw [c]; decide)
      have f93 : (b = 93) = False := eq_false (by rw [c]; decide)
      have f125 : (b = 125) = False := eq_false (by rw [c]; decide)
      have f59 : (b = 59) = False := eq_false (by rw [c]; decide)
      simp (config := { maxSteps := 4000000 }) [hpc, eu, f40, f91, f123, f41, f93, f125, f59, pu']
    · have f40 : (b = 40) = False := eq_false (by rw [c]; decide)
      have f91 : (b = 91) = False := eq_false (by rw [c]; decide)
      have f123 : (b = 123) = True := eq_true c
      have f41 : (b = 41) = False := eq_false (by rw [c]; decide)
      have f93 : (b = 93) = False := eq_false (by rw [c]; decide)
      have f125 : (b = 125) = False := eq_false (by rw [c]; decide)
      have f59 : (b = 59) = False := eq_false (by rw [c]; decide)
      simp (config := { maxSteps := 4000000 }) [hpc, eu, f40, f91, f123, f41, f93, f125, f59, pu']
  · have f40 : (b = 40) = False := eq_false (fun c => c1 (.inl c))
    have f91 : (b = 91) = False := eq_false (fun c => c1 (.inr (.inl c)))
    have f123 : (b = 123) = False := eq_false (fun c => c1 (.inr (.inr c)))
    by_cases c2 : b = 41 ∨ b = 93 ∨ b = 125
    · have e : m.sign b = m.piece.pop b := by unfold M.sign; rw [if_neg c1, if_pos c2]
      rw [e]
      rcases c2 with c | c | c
      · have f40 : (b = 40) = False := eq_false (by rw [c]; decide)
        have f91 : (b = 91) = False := eq_false (by rw [c]; decide)
        have f123 : (b = 123) = False := eq_false (by rw [c]; decide)
        have f41 : (b = 41) = True := eq_true c
        have f93 : (b = 93) = False := eq_false (by rw [c]; decide)
        have f125 : (b = 125) = False := eq_false (by rw [c]; decide)
        have f59 : (b = 59) = False := eq_false (by rw [c]; decide)
        simp (config := { maxSteps := 4000000 }) [hpc, eo, f40, f91, f123, f41, f93, f125, f59, po']
      · have f40 : (b = 40) = False := eq_false (by rw [c]; decide)
        have f91 : (b = 91) = False := eq_false (by rw [c]; decide)
        have f123 : (b = 123) = False := eq_false (by rw [c]; decide)
        have f41 : (b = 41) = False := eq_false (by rw [c]; decide)
        have f93 : (b = 93) = True := eq_true c
        have f125 : (b = 125) = False := eq_false (by rw [c]; decide)
        have f59 : (b = 59) = False := eq_false (by rw [c]; decide)
        simp (config := { maxSteps := 4000000 }) [hpc, eo, f40, f91, f123, f41, f93, f125, f59, po']
      · have f40 : (b = 40) = False := eq_false (by rw [c]; decide)
        have f91 : (b = 91) = False := eq_false (by rw [c]; decide)
        have f123 : (b = 123) = False := eq_false (by rw [c]; decide)
        have f41 : (b = 41) = False := eq_false (by rw [c]; decide)
        have f93 : (b = 93) = False := eq_false (by rw [c]; decide)
        have f125 : (b = 125) = True := eq_true c
        have f59 : (b = 59) = False := eq_false (by rw [c]; decide)
        simp (config := { maxSteps := 4000000 }) [hpc, eo, f40, f91, f123, f41, f93, f125, f59, po']
    · have f41 : (b = 41) = False := eq_false (fun c => c2 (.inl c))
      have f93 : (b = 93) = False := eq_false (fun c => c2 (.inr (.inl c)))
      have f125 : (b = 125) = False := eq_false (fun c => c2 (.inr (.inr c)))
      have en := fun m'' g1 g2 => h.setPost (m' := m'') g1 g2
      by_cases c3 : b = 59
      · have f59 := eq_true c3
        by_cases c4 : m.stack = []
        · have e8 : (m.stack = []) = True := eq_true c4
          simp (config := { maxSteps := 4000000 }) [hpc, hl, hen, hp, f40, f91, f123, f41, f93, f125, f59, e8]
          have e : m.sign b = { m.piece.ended 0 with ends := w64 (m.ends + 1) } := by
            unfold M.sign; rw [if_neg c1, if_neg c2, if_pos c3]
            simp [M.ended, M.piece, c4]
          rw [e]
          have hk := en { m.piece.ended 0 with ends := w64 (m.ends + 1) } rfl rfl
          exact hk
        · have e8 : (m.stack = []) = False := eq_false c4
          simp (config := { maxSteps := 4000000 }) [hpc, hl, hen, hp, f40, f91, f123, f41, f93, f125, f59, e8]
          have e : m.sign b = m.piece.ended 0 := by
            unfold M.sign; rw [if_neg c1, if_neg c2, if_pos c3]
            simp [M.ended, M.piece, c4]
          rw [e]
          exact en (m.piece.ended 0) rfl rfl
      · have f59 := eq_false c3
        simp (config := { maxSteps := 4000000 }) [hpc, hl, hen, hp, f40, f91, f123, f41, f93, f125, f59]
        have e : m.sign b = m.piece.ended 0 := by
          unfold M.sign; rw [if_neg c1, if_neg c2, if_neg c3]
        rw [e]
        exact en (m.piece.ended 0) rfl rfl
theorem At.newPost {B : LB} (h : At N p H m v) (s1 : m1.stack = m.stack) (d1 : m1.depth = m.depth) (g1 : m'.stack = m.stack) (g2 : m'.depth = m.depth) : Post N p H m' (((H.set p (mb m1 v)).new B).set p (mb m' v)) := by
  have h2 := (((h.set s1 d1).new (B := B)).set (m' := m') (g1.trans s1.symm) (g2.trans d1.symm))
  have hp := h.lt
  have hN := h.le
  refine ⟨⟨v, h2⟩, Nat.le_succ _, fun k hk => ?_, rfl, rfl⟩
  rw [get_set_ne (by omega), get_new_ne (by show k ≠ H.n; omega), get_set_ne (by omega)]
theorem conv_b {H0 : LH} : lconv Tryd.prog 38 9 (sl H0.n 1 1) (H0.new ⟨[.int .u8 b.toNat], 5, true⟩) = some (str [b]) :=
  lconv_bs (e := 5) Tryd.underlying38 Tryd.underlying9 Tryd.underlying5 get_new (by simp) (by simp)
theorem idx_mem : ∀ (l : List UInt8) (c : UInt8), 0 ≤ Lib.indexByte l c ↔ c ∈ l
  | [], c => by simp [Lib.indexByte]
  | x :: l, c => by
    have ih := idx_mem l c
    have hge := Lib.indexByte_ge l c
    unfold Lib.indexByte
    by_cases hx : x = c
    · simp [hx]
    · have hx1 : (x == c) = false := by simp [hx]
      have hx2 : ¬ c = x := fun e => hx e.symm
      rw [hx1]
      simp only [Bool.false_eq_true, if_false, List.mem_cons, hx2, false_or]
      by_cases h1 : Lib.indexByte l c = -1
      · simp [h1] at ih ⊢; exact ih
      · have : (Lib.indexByte l c == -1) = false := by simp [h1]
        rw [this]
        simp only [Bool.false_eq_true, if_false]
        rw [← ih]; omega
set_option maxHeartbeats 4000000 in
theorem begin_ex (h : At N p H m v) : ∃ H', LC Tryd.prog EJ 52 [ptr p 0, .int .u8 b.toNat] H = some (.tuple #[], H') ∧ Post N p H (m.begin b) H' := by
  refine meth_ex rfl Tryd.func52 rfl (Nat.le_of_ble_eq_true rfl) (by decide) (by kernel_rfl) h ?_
  have hg := h.get
  have hp := h.lt
  have hne : (p = H.n) = False := eq_false (by omega)
  have hpc := piece_l hg hp
  have hfl := fail_l hg hp
  have hjo := joined_l hg
  have en := fun m'' g1 g2 => h.setPost (m' := m'') g1 g2
  obtain ⟨Hs, es, ps⟩ := sign_ex (b := b) h
  have hf := fun H => feed_l (H := H) (b := b)
  have hw := fun H => white_l (H := H) (b := b)
  have hi := fun H => inner_l (H := H) (b := b)
  have hd := fun H => digit_l (H := H) (b := b)
  have hcb : ∀ B, lconv Tryd.prog 38 9 (sl H.n 1 1) ((H.set p B).new ⟨[.int .u8 b.toNat], 5, true⟩) = some (str [b]) := fun B => conv_b (H0 := H.set p B)
  have hgn : ∀ A B, ((H.set p A).new B).get p = some A := fun A B => by rw [get_new_ne (by show p ≠ H.n; omega), get_set]
  by_cases c1 : feedB b = true
  · simp (config := { maxSteps := 4000000 }) [hf, c1, hg, hp]
    have e : m.begin b = { m with broken := true } := by unfold M.begin; rw [if_pos c1]
    rw [e]; exact en { m with broken := true } rfl rfl
  rw [Bool.not_eq_true] at c1
  by_cases c2 : white b = true
  · simp (config := { maxSteps := 4000000 }) [hf, hw, c1, c2, hg, hp]
    have e : m.begin b = m := by unfold M.begin; simp [c1, c2]
    rw [e]; exact h.post
  rw [Bool.not_eq_true] at c2
  by_cases c3 : inner b = true
  · by_cases c4 : m.joined = true
    · simp (config := { maxSteps := 4000000 }) [hf, hw, hi, hjo, hfl, c1, c2, c3, c4, hg, hp]
      have e : m.begin b = m.fail := by unfold M.begin; simp [c1, c2, c3, c4]
      rw [e]; exact en m.fail rfl rfl
    · rw [Bool.not_eq_true] at c4
      by_cases c5 : digit b = true
      · simp (config := { maxSteps := 4000000 }) [hf, hw, hi, hd, hjo, hpc, hcb, c1, c2, c3, c4, c5, hg, hp, hgn]
        have e : m.begin b = { m.piece with at_ := 2, said := [b] } := by unfold M.begin; simp [c1, c2, c3, c4, c5]
        rw [e]; exact h.newPost (m1 := m.piece) (m' := { m.piece with at_ := 2, said := [b] }) rfl rfl rfl rfl
      · rw [Bool.not_eq_true] at c5
        simp (config := { maxSteps := 4000000 }) [hf, hw, hi, hd, hjo, hpc, hcb, c1, c2, c3, c4, c5, hg, hp, hgn]
        have e : m.begin b = { m.piece with at_ := 1, said := [b] } := by unfold M.begin; simp [c1, c2, c3, c4, c5]
        rw [e]; exact h.newPost (m1 := m.piece) (m' := { m.piece with at_ := 1, said := [b] }) rfl rfl rfl rfl
  rw [Bool.not_eq_true] at c3
  by_cases c34 : b = 34 ∨ b = 39
  · have e : m.begin b = if m.joined then m.fail else { m.piece with at_ := 3, by_ := b } := by unfold M.begin; simp [c1, c2, c3, c34]
    rw [e]
    by_cases c4 : m.joined = true
    · rw [if_pos c4]
      rcases c34 with c | c
      · have f34 : (b = 34) = True := eq_true c
        simp (config := { maxSteps := 4000000 }) [hf, hw, hi, hjo, hfl, hpc, c1, c2, c3, hg, hp, c4, f34]
        exact en m.fail rfl rfl
      · have f34 : (b = 34) = False := eq_false (by rw [c]; decide)
        have f39 : (b = 39) = True := eq_true c
        simp (config := { maxSteps := 4000000 }) [hf, hw, hi, hjo, hfl, hpc, c1, c2, c3, hg, hp, c4, f34, f39]
        exact en m.fail rfl rfl
    · rw [if_neg c4]
      rw [Bool.not_eq_true] at c4
      rcases c34 with c | c
      · have f34 : (b = 34) = True := eq_true c
        simp (config := { maxSteps := 4000000 }) [hf, hw, hi, hjo, hfl, hpc, c1, c2, c3, hg, hp, c4, f34]
        exact en { m.piece with at_ := 3, by_ := b } rfl rfl
      · have f34 : (b = 34) = False := eq_false (by rw [c]; decide)
        have f39 : (b = 39) = True := eq_true c
        simp (config := { maxSteps := 4000000 }) [hf, hw, hi, hjo, hfl, hpc, c1, c2, c3, hg, hp, c4, f34, f39]
        exact en { m.piece with at_ := 3, by_ := b } rfl rfl
  have f34 : (b = 34) = False := eq_false (fun c => c34 (.inl c))
  have f39 : (b = 39) = False := eq_false (fun c => c34 (.inr c))
  by_cases c96 : b = 96
  · have f96 := eq_true c96
    simp (config := { maxSteps := 4000000 }) [hf, hw, hi, hjo, hfl, hpc, c1, c2, c3, hg, hp, f34, f39, f96]
    have e : m.begin b = { m.piece with at_ := 4, by_ := b } := by unfold M.begin; simp [c1, c2, c3, f34, f39, f96]
    rw [e]
    exact en { m.piece with at_ := 4, by_ := b } rfl rfl
  have f96 := eq_false c96
  by_cases c47 : b = 47
  · have f47 := eq_true c47
    simp (config := { maxSteps := 4000000 }) [hf, hw, hi, hjo, hfl, hpc, c1, c2, c3, hg, hp, f34, f39, f96, f47]
    have e : m.begin b = { m with at_ := 9 } := by unfold M.begin; simp [c1, c2, c3, f34, f39, f96, f47]
    rw [e]
    exact en { m with at_ := 9 } rfl rfl
  have f47 := eq_false c47
  have hss := fun H => signs_l (H := H) (b := b)
  have hbody : m.begin b = if b = 60 ∧ m.pieces = 0 then { m with at_ := 13 } else if signs.contains b then m.sign b else m.fail := by
    unfold M.begin; simp [c1, c2, c3, f34, f39, f96, f47]
  rw [hbody]
  have hmem := idx_mem signs b
  by_cases c60 : b = 60
  · have f60 := eq_true c60
    by_cases c0 : m.pieces = 0
    · simp (config := { maxSteps := 4000000 }) [hf, hw, hi, hfl, c1, c2, c3, hg, hp, f34, f39, f96, f47, f60, c0]
      have hk := en { m with at_ := 13 } rfl rfl
      simpa [c0] using hk
    · by_cases cs : 0 ≤ Lib.indexByte signs b
      · have cs' := eq_true cs
        simp (config := { maxSteps := 4000000 }) [hf, hw, hi, hfl, c1, c2, c3, hg, hp, f34, f39, f96, f47, f60, c0, hss, cs', es]
        exact (by rw [if_pos (hmem.1 cs)]; exact ps)
      · have cs' := eq_false cs
        simp (config := { maxSteps := 4000000 }) [hf, hw, hi, hfl, c1, c2, c3, hg, hp, f34, f39, f96, f47, f60, c0, hss, cs']
        exact (by rw [if_neg (fun hh => cs (hmem.2 hh))]; exact en m.fail rfl rfl)
  · have f60 := eq_false c60
    by_cases cs : 0 ≤ Lib.indexByte signs b
    · have cs' := eq_true cs
      simp (config := { maxSteps := 4000000 }) [hf, hw, hi, hfl, c1, c2, c3, hg, hp, f34, f39, f96, f47, f60, hss, cs', es]
      exact (by rw [if_pos (hmem.1 cs)]; exact ps)
    · have cs' := eq_false cs
      simp (config := { maxSteps := 4000000 }) [hf, hw, hi, hfl, c1, c2, c3, hg, hp, f34, f39, f96, f47, f60, hss, cs']
      exact (by rw [if_neg (fun hh => cs (hmem.2 hh))]; exact en m.fail rfl rfl)
end
end Go.Proofs.YtgnefbngkhjfcaaDoor
